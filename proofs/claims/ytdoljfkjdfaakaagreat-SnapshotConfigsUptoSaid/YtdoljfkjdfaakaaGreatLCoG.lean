/-
  Texts of the seat, merged.
-/
import Derived.Test.YtdoljfkjdfaakaaGreatLBA
import Derived.Test.YtdoljfkjdfaakaaGreatLBB
import Derived.Test.YtdoljfkjdfaakaaGreatLBC
import Derived.Test.YtdoljfkjdfaakaaGreatLBD
import Derived.Test.YtdoljfkjdfaakaaGreatLBE
import Derived.Test.YtdoljfkjdfaakaaGreatLCoF
import Derived.Test.YtdoljfkjdfaakaaGreatChecked
import Derived.WalkKit
import Derived.Lib.Hide
import Derived.Lib.AppendStr
import Derived.Deep.AppendLies
import Derived.Deep.AppendSrc
import Derived.Deep.Draws
import Derived.Deep.QuietTactic
import Derived.BigQuiet
import Derived.Deep.RegionWith
import Derived.Maps.AppendAt
import Derived.WalkSpells
import Derived.Orders
import Derived.Deep.Slices
import Derived.Deep.Fields
import Derived.ChangeArms
import Derived.Lib.OthersKept
import Derived.Lib.TrimU
import Derived.Lib.IndexAny
import Derived.Deep.LoopGhost
import Derived.Lib.Bytealg
import Derived.RangeFuncBox
import Derived.RangeFuncNested
import Derived.RangeFuncBound
import Derived.RangeFuncCalls
import Derived.RangeFuncLeaves
import Derived.Shelf.Abstract
import Derived.OwnWalkIn
import Derived.TacticsInMore
import Derived.LoopNIn
import Derived.LoopIn
import Derived.RangeFuncWrites
import Derived.Maps.OwnIn
import Derived.Maps.Views
import Derived.Laws.OwnMore
import Derived.Maps.OwnSet
import Derived.Laws.IdiomStrings
import Derived.Test.YtdoljfkjdfaakaaGreatRows
import Derived.ProofKit
import Derived.OpenShut
import Derived.Carry
import Derived.OrdersIn
import Derived.Great.BuildSlice
import Derived.ArgAppend
import Derived.Laws.MakeOwn
import Derived.Laws.Cover3
import Derived.Laws.CopyRow
import Derived.MapKept
import Derived.Maps.RangeRun
import Derived.DeepKeys5
import Derived.WideKeyRuns
import Derived.RangeFuncOwn
import Derived.Defers
import Derived.Recover
import Derived.Tactics
import Derived.Tactics2
import Derived.KernelRfl
set_option linter.unusedVariables false
set_option linter.unusedSimpArgs false
set_option linter.unnecessarySimpa false
set_option linter.all false

namespace Go.Proofs.YtdoljfkjdfaakaaGreat
set_option maxRecDepth 100000
open Go.RowKit

structure S_constraintref52_writer where
  f0_b : (List Int)
  f1_bad : Bool

def enc_S_constraintref52_writer (x : S_constraintref52_writer) : D := .agg [.lst (x.f0_b.map (D.int .u8)), .bool x.f1_bad]

noncomputable def lf_Pconstraintref52_writer_num_s1 (n_a1 : Int) (low_a2 : Int) (high_a3 : Int) (c_0 : S_constraintref52_writer) : Option (S_constraintref52_writer) :=
  (bif c_0.f1_bad then
  ((x_cPutInt c_0.f0_b n_a1).bind fun r_2 =>
  some ((⟨r_2, true⟩ : S_constraintref52_writer)))
  else
  (bif (decide (n_a1 < low_a2)) then
  ((x_cPutInt c_0.f0_b n_a1).bind fun r_4 =>
  some ((⟨r_4, true⟩ : S_constraintref52_writer)))
  else
  ((x_cPutInt c_0.f0_b n_a1).bind fun r_5 =>
  some ((⟨r_5, (decide (n_a1 > high_a3))⟩ : S_constraintref52_writer)))))

set_option maxHeartbeats 1000000 in
theorem lg_Pconstraintref52_writer_num_s1 (n_a1 : Int) (low_a2 : Int) (high_a3 : Int) (c_0 : S_constraintref52_writer) (b_o0 : Nat) (res : S_constraintref52_writer) (hr : lf_Pconstraintref52_writer_num_s1 n_a1 low_a2 high_a3 c_0 = some res) : Spec Tryz.prog 41 [.ref b_o0 0 [], .int .i64 n_a1, .int .i64 low_a2, .int .i64 high_a3] [.cell b_o0 (enc_S_constraintref52_writer c_0)] (fun d σ => d = .tup [] ∧ σ = [.cell b_o0 (enc_S_constraintref52_writer res)]) := by
  unfold lf_Pconstraintref52_writer_num_s1 at hr
  refine spec_env [(0, .ref b_o0 0 []), (1, .int .i64 n_a1), (2, .int .i64 low_a2), (3, .int .i64 high_a3)] Tryz.func41 rfl rfl fun K hK => ?_
  refine g_seq ?_
  refine g_run (by kernel_rfl) [(0, .d), (1, .d), (2, .d), (3, .d), (4, .r), (5, .d), (6, .d), (7, .d), (8, .d), (9, .d), (10, .d), (11, .d), (12, .d), (13, .d), (14, .d), (15, .d), (16, .d), (17, .w)] rfl ?_
  refine r_d rfl rfl rfl (s_move rfl rfl) ?_
  refine r_d rfl rfl rfl (s_move rfl rfl) ?_
  refine r_d rfl rfl rfl (s_nilCheckR rfl rfl) ?_
  refine r_d rfl rfl rfl (s_fieldRef rfl fl_constraintref52_writer_1 rfl) ?_
  refine r_r rfl rfl rfl (t_loadRef rfl rfl (.head _) rfl rfl (by exact ty_bool) rfl) ?_
  refine r_d rfl rfl rfl (s_move rfl rfl) ?_
  refine r_sB 13 rfl hr (fun h13_0 hr => ?_) (fun h13_0 hr => ?_)
  ·
   refine r_skip rfl rfl rfl ?_
   refine r_skip rfl rfl rfl ?_
   refine r_skip rfl rfl rfl ?_
   refine r_d rfl rfl rfl (s_pickT rfl rfl rfl) ?_
   refine r_d rfl rfl rfl (s_move rfl rfl) ?_
   refine r_skip rfl rfl rfl ?_
   refine r_skip rfl rfl rfl ?_
   refine r_skip rfl rfl rfl ?_
   refine r_d rfl rfl rfl (s_pickT rfl rfl rfl) ?_
   refine r_d rfl rfl rfl (s_nilCheckR rfl rfl) ?_
   refine r_d rfl rfl rfl (s_fieldRef rfl fl_constraintref52_writer_1 rfl) ?_
   refine r_w01 rfl rfl rfl (t_store _ rfl rfl rfl (Wk.refl _) (pf0 _) rfl rfl (by exact ty_bool) rfl rfl rfl) ?_
   refine r_end ?_
   refine g_run (by kernel_rfl) [(0, .d), (1, .d), (2, .d), (3, .d), (4, .r), (5, .d), (6, .d), (7, .d), (8, .d), (9, .w)] rfl ?_
   refine r_d rfl rfl rfl (s_move rfl rfl) ?_
   refine r_d rfl rfl rfl (s_move rfl rfl) ?_
   refine r_d rfl rfl rfl (s_nilCheckR rfl rfl) ?_
   refine r_d rfl rfl rfl (s_fieldRef rfl fl_constraintref52_writer_0 rfl) ?_
   refine r_r rfl rfl rfl (t_loadRef rfl rfl (.head _) rfl rfl (by exact ty_L_uint8) rfl) ?_
   refine r_d rfl rfl rfl (s_move rfl rfl) ?_
   obtain ⟨r_2, hr_2, hr⟩ := bindS hr
   refine r_d rfl rfl rfl (s_callD rfl cl_constraintref01_PutInt (.cons rfl (Wk.refl _) (.cons rfl (Wk.refl _) .nil)) (lx_constraintref01_PutInt _ _ _ hr_2)) ?_
   refine r_d rfl rfl rfl (s_nilCheckR rfl rfl) ?_
   refine r_d rfl rfl rfl (s_fieldRef rfl fl_constraintref52_writer_0 rfl) ?_
   refine r_w01 rfl rfl rfl (t_store _ rfl rfl rfl (Wk.refl _) (pf0 _) rfl rfl (by exact ty_L_uint8) rfl rfl rfl) ?_
   refine r_end ?_
   obtain rfl := Option.some.inj hr
   refine g_end Tryz.func41 _ .nil ?_
   exact ⟨rfl, rfl⟩
  ·
   refine r_d rfl rfl rfl (s_move rfl rfl) ?_
   refine r_d rfl rfl rfl (s_move rfl rfl) ?_
   refine r_d rfl rfl rfl (s_cmp rfl rfl rfl rfl) ?_
   refine r_d rfl rfl rfl (s_pickF rfl rfl rfl) ?_
   refine r_d rfl rfl rfl (s_move rfl rfl) ?_
   refine r_sB 18 rfl hr (fun h18_2 hr => ?_) (fun h18_2 hr => ?_)
   ·
    refine r_skip rfl rfl rfl ?_
    refine r_skip rfl rfl rfl ?_
    refine r_skip rfl rfl rfl ?_
    refine r_d rfl rfl rfl (s_pickT rfl rfl rfl) ?_
    refine r_d rfl rfl rfl (s_nilCheckR rfl rfl) ?_
    refine r_d rfl rfl rfl (s_fieldRef rfl fl_constraintref52_writer_1 rfl) ?_
    refine r_w01 rfl rfl rfl (t_store _ rfl rfl rfl (Wk.refl _) (pf0 _) rfl rfl (by exact ty_bool) rfl rfl rfl) ?_
    refine r_end ?_
    refine g_run (by kernel_rfl) [(0, .d), (1, .d), (2, .d), (3, .d), (4, .r), (5, .d), (6, .d), (7, .d), (8, .d), (9, .w)] rfl ?_
    refine r_d rfl rfl rfl (s_move rfl rfl) ?_
    refine r_d rfl rfl rfl (s_move rfl rfl) ?_
    refine r_d rfl rfl rfl (s_nilCheckR rfl rfl) ?_
    refine r_d rfl rfl rfl (s_fieldRef rfl fl_constraintref52_writer_0 rfl) ?_
    refine r_r rfl rfl rfl (t_loadRef rfl rfl (.head _) rfl rfl (by exact ty_L_uint8) rfl) ?_
    refine r_d rfl rfl rfl (s_move rfl rfl) ?_
    obtain ⟨r_4, hr_4, hr⟩ := bindS hr
    refine r_d rfl rfl rfl (s_callD rfl cl_constraintref01_PutInt (.cons rfl (Wk.refl _) (.cons rfl (Wk.refl _) .nil)) (lx_constraintref01_PutInt _ _ _ hr_4)) ?_
    refine r_d rfl rfl rfl (s_nilCheckR rfl rfl) ?_
    refine r_d rfl rfl rfl (s_fieldRef rfl fl_constraintref52_writer_0 rfl) ?_
    refine r_w01 rfl rfl rfl (t_store _ rfl rfl rfl (Wk.refl _) (pf0 _) rfl rfl (by exact ty_L_uint8) rfl rfl rfl) ?_
    refine r_end ?_
    obtain rfl := Option.some.inj hr
    refine g_end Tryz.func41 _ .nil ?_
    exact ⟨rfl, rfl⟩
   ·
    refine r_d rfl rfl rfl (s_move rfl rfl) ?_
    refine r_d rfl rfl rfl (s_move rfl rfl) ?_
    refine r_d rfl rfl rfl (s_cmp rfl rfl rfl rfl) ?_
    refine r_d rfl rfl rfl (s_pickF rfl rfl rfl) ?_
    refine r_d rfl rfl rfl (s_nilCheckR rfl rfl) ?_
    refine r_d rfl rfl rfl (s_fieldRef rfl fl_constraintref52_writer_1 rfl) ?_
    refine r_w01 rfl rfl rfl (t_store _ rfl rfl rfl (Wk.refl _) (pf0 _) rfl rfl (by exact ty_bool) rfl rfl rfl) ?_
    refine r_end ?_
    refine g_run (by kernel_rfl) [(0, .d), (1, .d), (2, .d), (3, .d), (4, .r), (5, .d), (6, .d), (7, .d), (8, .d), (9, .w)] rfl ?_
    refine r_d rfl rfl rfl (s_move rfl rfl) ?_
    refine r_d rfl rfl rfl (s_move rfl rfl) ?_
    refine r_d rfl rfl rfl (s_nilCheckR rfl rfl) ?_
    refine r_d rfl rfl rfl (s_fieldRef rfl fl_constraintref52_writer_0 rfl) ?_
    refine r_r rfl rfl rfl (t_loadRef rfl rfl (.head _) rfl rfl (by exact ty_L_uint8) rfl) ?_
    refine r_d rfl rfl rfl (s_move rfl rfl) ?_
    obtain ⟨r_5, hr_5, hr⟩ := bindS hr
    refine r_d rfl rfl rfl (s_callD rfl cl_constraintref01_PutInt (.cons rfl (Wk.refl _) (.cons rfl (Wk.refl _) .nil)) (lx_constraintref01_PutInt _ _ _ hr_5)) ?_
    refine r_d rfl rfl rfl (s_nilCheckR rfl rfl) ?_
    refine r_d rfl rfl rfl (s_fieldRef rfl fl_constraintref52_writer_0 rfl) ?_
    refine r_w01 rfl rfl rfl (t_store _ rfl rfl rfl (Wk.refl _) (pf0 _) rfl rfl (by exact ty_L_uint8) rfl rfl rfl) ?_
    refine r_end ?_
    obtain rfl := Option.some.inj hr
    refine g_end Tryz.func41 _ .nil ?_
    exact ⟨rfl, rfl⟩

noncomputable def lf_Pconstraintref52_writer_text_s1 (s_a1 : ByteArray) (c_0 : S_constraintref52_writer) : Option (S_constraintref52_writer) :=
  (bif (decide ((s_a1.size : Int) > (40 : Int))) then
  some ((⟨c_0.f0_b, true⟩ : S_constraintref52_writer))
  else
  ((x_cPutText c_0.f0_b s_a1).bind fun r_2 =>
  some ((⟨r_2, c_0.f1_bad⟩ : S_constraintref52_writer))))

set_option maxHeartbeats 1000000 in
theorem lg_Pconstraintref52_writer_text_s1 (s_a1 : ByteArray) (c_0 : S_constraintref52_writer) (b_o0 : Nat) (res : S_constraintref52_writer) (hr : lf_Pconstraintref52_writer_text_s1 s_a1 c_0 = some res) : Spec Tryz.prog 42 [.ref b_o0 0 [], .str s_a1] [.cell b_o0 (enc_S_constraintref52_writer c_0)] (fun d σ => d = .tup [] ∧ σ = [.cell b_o0 (enc_S_constraintref52_writer res)]) := by
  unfold lf_Pconstraintref52_writer_text_s1 at hr
  refine spec_env [(0, .ref b_o0 0 []), (1, .str s_a1)] Tryz.func42 rfl rfl fun K hK => ?_
  refine g_seq ?_
  refine g_seq ?_
  refine g_run (by kernel_rfl) [(0, .d), (1, .d), (2, .d)] rfl ?_
  refine r_d rfl rfl rfl (s_move rfl rfl) ?_
  refine r_d rfl rfl rfl (s_lenS rfl Tryz.underlying9 rfl) ?_
  refine r_d rfl rfl rfl (s_cmp rfl rfl rfl rfl) ?_
  refine r_end ?_
  refine g_sB 6 rfl hr (fun h6_0 hr => ?_) (fun h6_0 hr => ?_)
  ·
   refine g_condT rfl ?_
   refine g_seq ?_
   refine g_run (by kernel_rfl) [(0, .d), (1, .d), (2, .d), (3, .w)] rfl ?_
   refine r_d rfl rfl rfl (s_move rfl rfl) ?_
   refine r_d rfl rfl rfl (s_nilCheckR rfl rfl) ?_
   refine r_d rfl rfl rfl (s_fieldRef rfl fl_constraintref52_writer_1 rfl) ?_
   refine r_w01 rfl rfl rfl (t_store _ rfl rfl rfl (Wk.refl _) (pf0 _) rfl rfl (by exact ty_bool) rfl rfl rfl) ?_
   refine r_end ?_
   obtain rfl := Option.some.inj hr
   refine g_ret Tryz.func42 _ .nil ?_
   exact ⟨rfl, rfl⟩
  ·
   refine g_condF rfl ?_
   refine g_skip ?_
   refine g_run (by kernel_rfl) [(0, .d), (1, .d), (2, .d), (3, .d), (4, .r), (5, .d), (6, .d), (7, .d), (8, .d), (9, .w)] rfl ?_
   refine r_d rfl rfl rfl (s_move rfl rfl) ?_
   refine r_d rfl rfl rfl (s_move rfl rfl) ?_
   refine r_d rfl rfl rfl (s_nilCheckR rfl rfl) ?_
   refine r_d rfl rfl rfl (s_fieldRef rfl fl_constraintref52_writer_0 rfl) ?_
   refine r_r rfl rfl rfl (t_loadRef rfl rfl (.head _) rfl rfl (by exact ty_L_uint8) rfl) ?_
   refine r_d rfl rfl rfl (s_move rfl rfl) ?_
   obtain ⟨r_2, hr_2, hr⟩ := bindS hr
   refine r_d rfl rfl rfl (s_callD rfl cl_constraintref01_PutText (.cons rfl (Wk.refl _) (.cons rfl (Wk.refl _) .nil)) (lx_constraintref01_PutText _ _ _ hr_2)) ?_
   refine r_d rfl rfl rfl (s_nilCheckR rfl rfl) ?_
   refine r_d rfl rfl rfl (s_fieldRef rfl fl_constraintref52_writer_0 rfl) ?_
   refine r_w01 rfl rfl rfl (t_store _ rfl rfl rfl (Wk.refl _) (pf0 _) rfl rfl (by exact ty_L_uint8) rfl rfl rfl) ?_
   refine r_end ?_
   obtain rfl := Option.some.inj hr
   refine g_end Tryz.func42 _ .nil ?_
   exact ⟨rfl, rfl⟩

noncomputable def lfo_Pconstraintref52_writer_term_s1 (rec : (List T) → S_constraintref52_writer → Option (S_constraintref52_writer)) (t_a1 : T) (c_0 : S_constraintref52_writer) : Option (S_constraintref52_writer) :=
  ((x_rightT t_a1).bind fun r_1 =>
  (bif (!r_1) then
  some ((⟨c_0.f0_b, true⟩ : S_constraintref52_writer))
  else
  ((lf_Pconstraintref52_writer_num_s1 t_a1.k 0 2 c_0).bind fun r_3 =>
  (bif (t_a1.k != (2 : Int)) then
  ((lf_Pconstraintref52_writer_num_s1 t_a1.i (-2147483648) 2147483648 r_3).bind fun r_5 =>
  some (r_5))
  else
  ((lf_Pconstraintref52_writer_text_s1 t_a1.s r_3).bind fun r_6 =>
  ((rec t_a1.ar r_6).bind fun r_7 =>
  some (r_7)))))))

set_option maxHeartbeats 1000000 in
theorem lgo_Pconstraintref52_writer_term_s1 (rec : (List T) → S_constraintref52_writer → Option (S_constraintref52_writer)) (IHR : ∀ (l_a1 : (List T)) (c_0 : S_constraintref52_writer) (b_o0 : Nat) (res : S_constraintref52_writer), rec l_a1 c_0 = some res → Spec Tryz.prog 158 [.ref b_o0 0 [], .lst (l_a1.map encT)] [.cell b_o0 (enc_S_constraintref52_writer c_0)] (fun d σ => d = .tup [] ∧ σ = [.cell b_o0 (enc_S_constraintref52_writer res)])) (t_a1 : T) (c_0 : S_constraintref52_writer) (b_o0 : Nat) (res : S_constraintref52_writer) (hr : lfo_Pconstraintref52_writer_term_s1 rec t_a1 c_0 = some res) : Spec Tryz.prog 73 [.ref b_o0 0 [], encT t_a1] [.cell b_o0 (enc_S_constraintref52_writer c_0)] (fun d σ => d = .tup [] ∧ σ = [.cell b_o0 (enc_S_constraintref52_writer res)]) := by
  unfold lfo_Pconstraintref52_writer_term_s1 at hr
  refine spec_env [(0, .ref b_o0 0 []), (1, encT t_a1)] Tryz.func73 rfl rfl fun K hK => ?_
  refine g_seq ?_
  refine g_run (by kernel_rfl) [(0, .d)] rfl ?_
  refine r_d rfl rfl rfl (s_box rfl rfl rfl) ?_
  refine r_end ?_
  refine g_seq ?_
  refine g_seq ?_
  refine g_run (by kernel_rfl) [(0, .d), (1, .d), (2, .d)] rfl ?_
  refine r_d rfl rfl rfl (s_load rfl rfl (by exact ty_api_Term) (sz_encT _)) ?_
  obtain ⟨r_1, hr_1, hr⟩ := bindS hr
  refine r_d rfl rfl rfl (s_callD rfl cl_constraintref03_Right (.cons rfl (Wk.refl _) .nil) (lx_constraintref03_Right _ _ hr_1)) ?_
  refine r_d rfl rfl rfl (s_not rfl rfl) ?_
  refine r_end ?_
  refine g_sB 6 rfl hr (fun h6_1 hr => ?_) (fun h6_1 hr => ?_)
  ·
   refine g_condT rfl ?_
   refine g_seq ?_
   refine g_run (by kernel_rfl) [(0, .d), (1, .d), (2, .d), (3, .w)] rfl ?_
   refine r_d rfl rfl rfl (s_move rfl rfl) ?_
   refine r_d rfl rfl rfl (s_nilCheckR rfl rfl) ?_
   refine r_d rfl rfl rfl (s_fieldRef rfl fl_constraintref52_writer_1 rfl) ?_
   refine r_w01 rfl rfl rfl (t_store _ rfl rfl rfl (Wk.refl _) (pf0 _) rfl rfl (by exact ty_bool) rfl rfl rfl) ?_
   refine r_end ?_
   obtain rfl := Option.some.inj hr
   refine g_ret Tryz.func73 _ .nil ?_
   exact ⟨rfl, rfl⟩
  ·
   refine g_condF rfl ?_
   refine g_skip ?_
   refine g_seq ?_
   refine g_run (by kernel_rfl) [(0, .d), (1, .d), (2, .d), (3, .w)] rfl ?_
   refine r_d rfl rfl rfl (s_move rfl rfl) ?_
   refine r_d rfl rfl rfl (s_fieldAddr rfl fl_api_Term_0 rfl (fsT_get0 _) (fsT_off0 _) rfl) ?_
   refine r_d rfl rfl rfl (s_load rfl rfl (by exact ty_int) rfl) ?_
   obtain ⟨r_3, hr_3, hr⟩ := bindS hr
   refine r_w rfl rfl rfl (s_call _ rfl cl_Pconstraintref52_writer_num (.cons rfl (Wk.refl _) (.cons rfl (Wk.refl _) (.cons rfl (Wk.refl _) (.cons rfl (Wk.refl _) .nil)))) (by exact (pf0 _)) (lg_Pconstraintref52_writer_num_s1 _ _ _ _ _ _ hr_3)) ?_
   rintro _ _ ⟨_, ⟨rfl, rfl⟩, rfl⟩
   refine r_st ((.cell b_o0 (enc_S_constraintref52_writer r_3)) :: _) rfl ?_
   refine r_end ?_
   refine g_seq ?_
   refine g_seq ?_
   refine g_run (by kernel_rfl) [(0, .d), (1, .d), (2, .d)] rfl ?_
   refine r_d rfl rfl rfl (s_fieldAddr rfl fl_api_Term_0 rfl (fsT_get0 _) (fsT_off0 _) rfl) ?_
   refine r_d rfl rfl rfl (s_load rfl rfl (by exact ty_int) rfl) ?_
   refine r_d rfl rfl rfl (s_cmp rfl rfl rfl rfl) ?_
   refine r_end ?_
   refine g_sB 16 rfl hr (fun h16_3 hr => ?_) (fun h16_3 hr => ?_)
   ·
    refine g_condT rfl ?_
    refine g_seq ?_
    refine g_run (by kernel_rfl) [(0, .d), (1, .d), (2, .d), (3, .w)] rfl ?_
    refine r_d rfl rfl rfl (s_move rfl rfl) ?_
    refine r_d rfl rfl rfl (s_fieldAddr rfl fl_api_Term_1 rfl (fsT_get1 _) (fsT_off1 _) rfl) ?_
    refine r_d rfl rfl rfl (s_load rfl rfl (by exact ty_int) rfl) ?_
    obtain ⟨r_5, hr_5, hr⟩ := bindS hr
    refine r_w rfl rfl rfl (s_call _ rfl cl_Pconstraintref52_writer_num (.cons rfl (Wk.refl _) (.cons rfl (Wk.refl _) (.cons rfl (Wk.refl _) (.cons rfl (Wk.refl _) .nil)))) (by exact (pf0 _)) (lg_Pconstraintref52_writer_num_s1 _ _ _ _ _ _ hr_5)) ?_
    rintro _ _ ⟨_, ⟨rfl, rfl⟩, rfl⟩
    refine r_st ((.cell b_o0 (enc_S_constraintref52_writer r_5)) :: _) rfl ?_
    refine r_end ?_
    obtain rfl := Option.some.inj hr
    refine g_ret Tryz.func73 _ .nil ?_
    exact ⟨rfl, rfl⟩
   ·
    refine g_condF rfl ?_
    refine g_skip ?_
    refine g_seq ?_
    refine g_run (by kernel_rfl) [(0, .d), (1, .d), (2, .d), (3, .w)] rfl ?_
    refine r_d rfl rfl rfl (s_move rfl rfl) ?_
    refine r_d rfl rfl rfl (s_fieldAddr rfl fl_api_Term_2 rfl (fsT_get2 _) (fsT_off2 _) rfl) ?_
    refine r_d rfl rfl rfl (s_load rfl rfl (by exact ty_string) rfl) ?_
    obtain ⟨r_6, hr_6, hr⟩ := bindS hr
    refine r_w rfl rfl rfl (s_call _ rfl cl_Pconstraintref52_writer_text (.cons rfl (Wk.refl _) (.cons rfl (Wk.refl _) .nil)) (by exact (pf0 _)) (lg_Pconstraintref52_writer_text_s1 _ _ _ _ hr_6)) ?_
    rintro _ _ ⟨_, ⟨rfl, rfl⟩, rfl⟩
    refine r_st ((.cell b_o0 (enc_S_constraintref52_writer r_6)) :: _) rfl ?_
    refine r_end ?_
    refine g_run (by kernel_rfl) [(0, .d), (1, .d), (2, .d), (3, .w)] rfl ?_
    refine r_d rfl rfl rfl (s_move rfl rfl) ?_
    refine r_d rfl rfl rfl (s_fieldAddr rfl fl_api_Term_3 rfl (fsT_get3 _) (fsT_off3 _) rfl) ?_
    refine r_d rfl rfl rfl (s_load rfl rfl (by exact ty_L_api_Term) rfl) ?_
    obtain ⟨r_7, hr_7, hr⟩ := bindS hr
    refine r_w rfl rfl rfl (s_call _ rfl cl_Pconstraintref52_writer_terms (.cons rfl (Wk.refl _) (.cons rfl (Wk.refl _) .nil)) (by exact (pf0 _)) (IHR _ _ _ _ hr_7)) ?_
    rintro _ _ ⟨_, ⟨rfl, rfl⟩, rfl⟩
    refine r_st ((.cell b_o0 (enc_S_constraintref52_writer r_7)) :: _) rfl ?_
    refine r_end ?_
    obtain rfl := Option.some.inj hr
    refine g_end Tryz.func73 _ .nil ?_
    exact ⟨rfl, rfl⟩

noncomputable def lf_Pconstraintref52_writer_terms_s1_L0 (k : (S_constraintref52_writer) → Option (S_constraintref52_writer)) (rec : (List T) → S_constraintref52_writer → Option (S_constraintref52_writer)) : List T → S_constraintref52_writer → Option (S_constraintref52_writer)
  | [], w_3 =>
  (k w_3)
  | q_5 :: rest, w_3 =>
  (bif (!w_3.f1_bad) then
  ((lfo_Pconstraintref52_writer_term_s1 rec q_5 w_3).bind fun r_7 =>
  (lf_Pconstraintref52_writer_terms_s1_L0 k rec rest r_7))
  else
  (k w_3))
noncomputable def lf_Pconstraintref52_writer_terms_s1 : Nat → (List T) → S_constraintref52_writer → Option (S_constraintref52_writer)
  | 0, _, _ => none
  | fuel + 1, l_a1, c_0 =>
    (fun (rec : (List T) → S_constraintref52_writer → Option (S_constraintref52_writer)) =>
      ((lf_Pconstraintref52_writer_num_s1 (l_a1.length : Int) 0 6 c_0).bind fun r_1 =>
      (lf_Pconstraintref52_writer_terms_s1_L0 (fun w_4 =>
      some (w_4)) rec l_a1 r_1))) (lf_Pconstraintref52_writer_terms_s1 fuel)

set_option maxHeartbeats 1000000 in
theorem lgs_Pconstraintref52_writer_terms_s1 (fuel : Nat) (rec : (List T) → S_constraintref52_writer → Option (S_constraintref52_writer)) (IHR : ∀ (l_a1 : (List T)) (c_0 : S_constraintref52_writer) (b_o0 : Nat) (res : S_constraintref52_writer), rec l_a1 c_0 = some res → Spec Tryz.prog 158 [.ref b_o0 0 [], .lst (l_a1.map encT)] [.cell b_o0 (enc_S_constraintref52_writer c_0)] (fun d σ => d = .tup [] ∧ σ = [.cell b_o0 (enc_S_constraintref52_writer res)])) (l_a1 : (List T)) (c_0 : S_constraintref52_writer) (b_o0 : Nat) (res : S_constraintref52_writer)
    (hr : ((lf_Pconstraintref52_writer_num_s1 (l_a1.length : Int) 0 6 c_0).bind fun r_1 =>
(lf_Pconstraintref52_writer_terms_s1_L0 (fun w_4 =>
some (w_4)) rec l_a1 r_1)) = some res) : Spec Tryz.prog 158 [.ref b_o0 0 [], .lst (l_a1.map encT)] [.cell b_o0 (enc_S_constraintref52_writer c_0)] (fun d σ => d = .tup [] ∧ σ = [.cell b_o0 (enc_S_constraintref52_writer res)]) := by
  refine spec_env [(0, .ref b_o0 0 []), (1, .lst (l_a1.map encT))] Tryz.func158 rfl rfl fun K hK => ?_
  refine g_seq ?_
  refine g_run (by kernel_rfl) [(0, .d), (1, .d), (2, .d), (3, .w)] rfl ?_
  refine r_d rfl rfl rfl (s_move rfl rfl) ?_
  refine r_d rfl rfl rfl (s_move rfl rfl) ?_
  refine r_d rfl rfl rfl (m_len (f := encT) l_a1 rfl el_L_api_Term rfl (asl rfl)) ?_
  obtain ⟨r_1, hr_1, hr⟩ := bindS hr
  refine r_w rfl rfl rfl (s_call _ rfl cl_Pconstraintref52_writer_num (.cons rfl (Wk.refl _) (.cons rfl (Wk.refl _) (.cons rfl (Wk.refl _) (.cons rfl (Wk.refl _) .nil)))) (by exact (pf0 _)) (lg_Pconstraintref52_writer_num_s1 _ _ _ _ _ _ hr_1)) ?_
  rintro _ _ ⟨_, ⟨rfl, rfl⟩, rfl⟩
  refine r_st ((.cell b_o0 (enc_S_constraintref52_writer r_1)) :: _) rfl ?_
  refine r_end ?_
  refine g_seq ?_
  refine g_run (by kernel_rfl) [(0, .d)] rfl ?_
  refine r_d rfl rfl rfl (s_assign rfl rfl) ?_
  refine r_end ?_
  obtain ⟨kk0, hkk0, hr⟩ := exK (fun k => lf_Pconstraintref52_writer_terms_s1_L0 k rec l_a1 r_1) hr
  refine g_len 1 rfl (asl rfl) fun hla0 => ?_
  simp only [List.length_map] at hla0
  refine g_blockJ (fun env σ => ∃ (w_4 : S_constraintref52_writer), env = [] ∧ σ = [.cell b_o0 (enc_S_constraintref52_writer w_4)] ∧ kk0 w_4 = some res) ?_ (fun HK0 => ?_)
  ·
   rintro _ _ ⟨w_4, rfl, rfl, hr⟩
   rw [hkk0] at hr
   obtain rfl := Option.some.inj hr
   refine g_end Tryz.func158 _ .nil ?_
   exact ⟨rfl, rfl⟩
  ·
   refine g_sub [(0, .ref b_o0 0 []), (1, .lst (l_a1.map encT)), (4, .int .i64 ((0 : Nat) : Int))] (Sub.cons' rfl (Sub.cons' rfl (Sub.cons' rfl (Sub.nil _)))) ?_
   refine g_loop (fun n env σ => ∃ (i_2 : Nat) (w_3 : S_constraintref52_writer), (n = l_a1.length - i_2) ∧ (env = [(0, .ref b_o0 0 []), (1, .lst (l_a1.map encT)), (4, .int .i64 (i_2 : Int))]) ∧ (σ = [.cell b_o0 (enc_S_constraintref52_writer w_3)]) ∧ (i_2 ≤ l_a1.length) ∧ (lf_Pconstraintref52_writer_terms_s1_L0 kk0 rec (l_a1.drop i_2) w_3 = some res)) _ ⟨0, r_1, rfl, rfl, rfl, Nat.zero_le _, hr⟩ ?_
   rintro n _ _ ⟨i_2, w_3, rfl, rfl, rfl, hi0, hr⟩ IH0
   rcases listStep l_a1 i_2 hi0 with ⟨ht0, hd0, he0⟩ | ⟨q_5, ht0, hd0, hq0, hlt0⟩
   ·
    rw [hd0, lf_Pconstraintref52_writer_terms_s1_L0] at hr
    refine g_seq ?_
    refine g_seq ?_
    refine g_run (by kernel_rfl) [(0, .d), (1, .d), (2, .d), (3, .d), (4, .d), (5, .d), (6, .d), (7, .d), (8, .r), (9, .d), (10, .d)] rfl ?_
    refine r_d rfl rfl rfl (s_move rfl rfl) ?_
    refine r_d rfl rfl rfl (s_move rfl rfl) ?_
    refine r_d rfl rfl rfl (m_len (f := encT) l_a1 rfl el_L_api_Term rfl (asl rfl)) ?_
    refine r_d rfl rfl rfl (s_cmp rfl rfl rfl rfl) ?_
    refine r_d rfl rfl rfl (s_move rfl rfl) ?_
    refine r_known 13 false rfl ht0 ?_
    refine r_skip rfl rfl rfl ?_
    refine r_skip rfl rfl rfl ?_
    refine r_skip rfl rfl rfl ?_
    refine r_skip rfl rfl rfl ?_
    refine r_skip rfl rfl rfl ?_
    refine r_d rfl rfl rfl (s_pickF rfl rfl rfl) ?_
    refine r_end ?_
    refine g_condF rfl ?_
    refine g_exit rfl ?_
    refine g_sub [] (Sub.nil _) ?_
    exact HK0 _ _ ⟨w_3, rfl, rfl, hr⟩
   ·
    rw [hd0, lf_Pconstraintref52_writer_terms_s1_L0] at hr
    refine g_seq ?_
    refine g_seq ?_
    refine g_run (by kernel_rfl) [(0, .d), (1, .d), (2, .d), (3, .d), (4, .d), (5, .d), (6, .d), (7, .d), (8, .r), (9, .d), (10, .d)] rfl ?_
    refine r_d rfl rfl rfl (s_move rfl rfl) ?_
    refine r_d rfl rfl rfl (s_move rfl rfl) ?_
    refine r_d rfl rfl rfl (m_len (f := encT) l_a1 rfl el_L_api_Term rfl (asl rfl)) ?_
    refine r_d rfl rfl rfl (s_cmp rfl rfl rfl rfl) ?_
    refine r_d rfl rfl rfl (s_move rfl rfl) ?_
    refine r_known 13 true rfl ht0 ?_
    refine r_d rfl rfl rfl (s_move rfl rfl) ?_
    refine r_d rfl rfl rfl (s_nilCheckR rfl rfl) ?_
    refine r_d rfl rfl rfl (s_fieldRef rfl fl_constraintref52_writer_1 rfl) ?_
    refine r_r rfl rfl rfl (t_loadRef rfl rfl (.head _) rfl rfl (by exact ty_bool) rfl) ?_
    refine r_d rfl rfl rfl (s_not rfl rfl) ?_
    refine r_d rfl rfl rfl (s_pickT rfl rfl rfl) ?_
    refine r_end ?_
    refine g_sB 19 rfl hr (fun h19_5 hr => ?_) (fun h19_5 hr => ?_)
    ·
     refine g_condT rfl ?_
     refine g_skip ?_
     refine g_seq ?_
     refine g_block ?_
     refine g_run (by kernel_rfl) [(0, .d), (1, .d), (2, .d), (3, .d), (4, .d), (5, .w)] rfl ?_
     refine r_d rfl rfl rfl (s_move rfl rfl) ?_
     refine r_d rfl rfl rfl (s_move rfl rfl) ?_
     refine r_d rfl rfl rfl (s_move rfl rfl) ?_
     refine r_d rfl rfl rfl (m_index (f := encT) l_a1 rfl el_L_api_Term rfl (asl rfl) rfl hq0 sz_encT rfl) ?_
     refine r_d rfl rfl rfl (s_load rfl rfl (by exact ty_api_Term) (sz_encT _)) ?_
     obtain ⟨r_7, hr_7, hr⟩ := bindS hr
     refine r_w rfl rfl rfl (s_call _ rfl cl_Pconstraintref52_writer_term (.cons rfl (Wk.refl _) (.cons rfl (Wk.refl _) .nil)) (by exact (pf0 _)) (lgo_Pconstraintref52_writer_term_s1 rec IHR _ _ _ _ hr_7)) ?_
     rintro _ _ ⟨_, ⟨rfl, rfl⟩, rfl⟩
     refine r_st ((.cell b_o0 (enc_S_constraintref52_writer r_7)) :: _) rfl ?_
     refine r_end ?_
     refine g_inBlock ?_
     refine g_run (by kernel_rfl) [(0, .d), (1, .d), (2, .d)] rfl ?_
     refine r_d rfl rfl rfl (s_move rfl rfl) ?_
     refine r_d rfl rfl rfl (s_ar (r := ((i_2 + 1 : Nat) : Int)) rfl rfl rfl (by simp [iar]) (by omega)) ?_
     refine r_d rfl rfl rfl (s_assign rfl rfl) ?_
     refine r_end ?_
     refine g_sub [(0, .ref b_o0 0 []), (1, .lst (l_a1.map encT)), (4, .int .i64 ((i_2 + 1 : Nat) : Int))] (Sub.cons' rfl (Sub.cons' rfl (Sub.cons' rfl (Sub.nil _)))) ?_
     exact IH0 _ _ _ (by omega) ⟨(i_2 + 1), r_7, rfl, rfl, rfl, (by omega), hr⟩
    ·
     refine g_condF rfl ?_
     refine g_exit rfl ?_
     refine g_sub [] (Sub.nil _) ?_
     exact HK0 _ _ ⟨w_3, rfl, rfl, hr⟩
theorem lg_Pconstraintref52_writer_terms_s1 : ∀ (fuel : Nat) (l_a1 : (List T)) (c_0 : S_constraintref52_writer) (b_o0 : Nat) (res : S_constraintref52_writer), lf_Pconstraintref52_writer_terms_s1 fuel l_a1 c_0 = some res → Spec Tryz.prog 158 [.ref b_o0 0 [], .lst (l_a1.map encT)] [.cell b_o0 (enc_S_constraintref52_writer c_0)] (fun d σ => d = .tup [] ∧ σ = [.cell b_o0 (enc_S_constraintref52_writer res)])
  | 0, _, _, _, _, h => by cases h
  | fuel + 1, l_a1, c_0, b_o0, res, h => lgs_Pconstraintref52_writer_terms_s1 fuel (lf_Pconstraintref52_writer_terms_s1 fuel) (lg_Pconstraintref52_writer_terms_s1 fuel) l_a1 c_0 b_o0 res h

noncomputable def lf_Pconstraintref52_writer_term_s1 (fuel : Nat) (t_a1 : T) (c_0 : S_constraintref52_writer) : Option (S_constraintref52_writer) := lfo_Pconstraintref52_writer_term_s1 (lf_Pconstraintref52_writer_terms_s1 fuel) t_a1 c_0
theorem lg_Pconstraintref52_writer_term_s1 (fuel : Nat) (t_a1 : T) (c_0 : S_constraintref52_writer) (b_o0 : Nat) (res : S_constraintref52_writer) (hr : lf_Pconstraintref52_writer_term_s1 fuel t_a1 c_0 = some res) : Spec Tryz.prog 73 [.ref b_o0 0 [], encT t_a1] [.cell b_o0 (enc_S_constraintref52_writer c_0)] (fun d σ => d = .tup [] ∧ σ = [.cell b_o0 (enc_S_constraintref52_writer res)]) := lgo_Pconstraintref52_writer_term_s1 (lf_Pconstraintref52_writer_terms_s1 fuel) (lg_Pconstraintref52_writer_terms_s1 fuel) t_a1 c_0 b_o0 res hr

noncomputable def lf_Pconstraintref52_writer_atom_s1 (fuel : Nat) (a_a1 : At) (c_0 : S_constraintref52_writer) : Option (S_constraintref52_writer) :=
  ((x_rightA a_a1).bind fun r_1 =>
  (bif (!r_1) then
  some ((⟨c_0.f0_b, true⟩ : S_constraintref52_writer))
  else
  ((lf_Pconstraintref52_writer_text_s1 a_a1.n c_0).bind fun r_3 =>
  ((lf_Pconstraintref52_writer_terms_s1 fuel a_a1.ts r_3).bind fun r_4 =>
  some (r_4)))))

set_option maxHeartbeats 1000000 in
theorem lg_Pconstraintref52_writer_atom_s1 (fuel : Nat) (a_a1 : At) (c_0 : S_constraintref52_writer) (b_o0 : Nat) (res : S_constraintref52_writer) (hr : lf_Pconstraintref52_writer_atom_s1 fuel a_a1 c_0 = some res) : Spec Tryz.prog 72 [.ref b_o0 0 [], encA a_a1] [.cell b_o0 (enc_S_constraintref52_writer c_0)] (fun d σ => d = .tup [] ∧ σ = [.cell b_o0 (enc_S_constraintref52_writer res)]) := by
  unfold lf_Pconstraintref52_writer_atom_s1 at hr
  refine spec_env [(0, .ref b_o0 0 []), (1, encA a_a1)] Tryz.func72 rfl rfl fun K hK => ?_
  refine g_seq ?_
  refine g_run (by kernel_rfl) [(0, .d)] rfl ?_
  refine r_d rfl rfl rfl (s_box rfl rfl rfl) ?_
  refine r_end ?_
  refine g_seq ?_
  refine g_seq ?_
  refine g_run (by kernel_rfl) [(0, .d), (1, .d), (2, .d)] rfl ?_
  refine r_d rfl rfl rfl (s_load rfl rfl (by exact ty_api_Atom) (sz_encA _)) ?_
  obtain ⟨r_1, hr_1, hr⟩ := bindS hr
  refine r_d rfl rfl rfl (s_callD rfl cl_constraintref03_RightAtom (.cons rfl (Wk.refl _) .nil) (lx_constraintref03_RightAtom _ _ hr_1)) ?_
  refine r_d rfl rfl rfl (s_not rfl rfl) ?_
  refine r_end ?_
  refine g_sB 6 rfl hr (fun h6_1 hr => ?_) (fun h6_1 hr => ?_)
  ·
   refine g_condT rfl ?_
   refine g_seq ?_
   refine g_run (by kernel_rfl) [(0, .d), (1, .d), (2, .d), (3, .w)] rfl ?_
   refine r_d rfl rfl rfl (s_move rfl rfl) ?_
   refine r_d rfl rfl rfl (s_nilCheckR rfl rfl) ?_
   refine r_d rfl rfl rfl (s_fieldRef rfl fl_constraintref52_writer_1 rfl) ?_
   refine r_w01 rfl rfl rfl (t_store _ rfl rfl rfl (Wk.refl _) (pf0 _) rfl rfl (by exact ty_bool) rfl rfl rfl) ?_
   refine r_end ?_
   obtain rfl := Option.some.inj hr
   refine g_ret Tryz.func72 _ .nil ?_
   exact ⟨rfl, rfl⟩
  ·
   refine g_condF rfl ?_
   refine g_skip ?_
   refine g_seq ?_
   refine g_run (by kernel_rfl) [(0, .d), (1, .d), (2, .d), (3, .w)] rfl ?_
   refine r_d rfl rfl rfl (s_move rfl rfl) ?_
   refine r_d rfl rfl rfl (s_fieldAddr rfl fl_api_Atom_0 rfl rfl rfl rfl) ?_
   refine r_d rfl rfl rfl (s_load rfl rfl (by exact ty_string) rfl) ?_
   obtain ⟨r_3, hr_3, hr⟩ := bindS hr
   refine r_w rfl rfl rfl (s_call _ rfl cl_Pconstraintref52_writer_text (.cons rfl (Wk.refl _) (.cons rfl (Wk.refl _) .nil)) (by exact (pf0 _)) (lg_Pconstraintref52_writer_text_s1 _ _ _ _ hr_3)) ?_
   rintro _ _ ⟨_, ⟨rfl, rfl⟩, rfl⟩
   refine r_st ((.cell b_o0 (enc_S_constraintref52_writer r_3)) :: _) rfl ?_
   refine r_end ?_
   refine g_run (by kernel_rfl) [(0, .d), (1, .d), (2, .d), (3, .w)] rfl ?_
   refine r_d rfl rfl rfl (s_move rfl rfl) ?_
   refine r_d rfl rfl rfl (s_fieldAddr rfl fl_api_Atom_1 rfl rfl rfl rfl) ?_
   refine r_d rfl rfl rfl (s_load rfl rfl (by exact ty_L_api_Term) rfl) ?_
   obtain ⟨r_4, hr_4, hr⟩ := bindS hr
   refine r_w rfl rfl rfl (s_call _ rfl cl_Pconstraintref52_writer_terms (.cons rfl (Wk.refl _) (.cons rfl (Wk.refl _) .nil)) (by exact (pf0 _)) (lg_Pconstraintref52_writer_terms_s1 fuel _ _ _ _ hr_4)) ?_
   rintro _ _ ⟨_, ⟨rfl, rfl⟩, rfl⟩
   refine r_st ((.cell b_o0 (enc_S_constraintref52_writer r_4)) :: _) rfl ?_
   refine r_end ?_
   obtain rfl := Option.some.inj hr
   refine g_end Tryz.func72 _ .nil ?_
   exact ⟨rfl, rfl⟩

noncomputable def lf_Pconstraintref52_writer_goal_s1 (fuel : Nat) (g_a1 : Gl) (c_0 : S_constraintref52_writer) : Option (S_constraintref52_writer) :=
  ((x_rightG g_a1).bind fun r_1 =>
  (bif (!r_1) then
  some ((⟨c_0.f0_b, true⟩ : S_constraintref52_writer))
  else
  ((lf_Pconstraintref52_writer_num_s1 g_a1.op 0 12 c_0).bind fun r_3 =>
  ((lf_Pconstraintref52_writer_text_s1 g_a1.n r_3).bind fun r_4 =>
  ((lf_Pconstraintref52_writer_terms_s1 fuel g_a1.ts r_4).bind fun r_5 =>
  some (r_5))))))

set_option maxHeartbeats 1000000 in
theorem lg_Pconstraintref52_writer_goal_s1 (fuel : Nat) (g_a1 : Gl) (c_0 : S_constraintref52_writer) (b_o0 : Nat) (res : S_constraintref52_writer) (hr : lf_Pconstraintref52_writer_goal_s1 fuel g_a1 c_0 = some res) : Spec Tryz.prog 138 [.ref b_o0 0 [], encG g_a1] [.cell b_o0 (enc_S_constraintref52_writer c_0)] (fun d σ => d = .tup [] ∧ σ = [.cell b_o0 (enc_S_constraintref52_writer res)]) := by
  unfold lf_Pconstraintref52_writer_goal_s1 at hr
  refine spec_env [(0, .ref b_o0 0 []), (1, encG g_a1)] Tryz.func138 rfl rfl fun K hK => ?_
  refine g_seq ?_
  refine g_run (by kernel_rfl) [(0, .d)] rfl ?_
  refine r_d rfl rfl rfl (s_box rfl rfl rfl) ?_
  refine r_end ?_
  refine g_seq ?_
  refine g_seq ?_
  refine g_run (by kernel_rfl) [(0, .d), (1, .d), (2, .d)] rfl ?_
  refine r_d rfl rfl rfl (s_load rfl rfl (by exact ty_api_Goal) (sz_encG _)) ?_
  obtain ⟨r_1, hr_1, hr⟩ := bindS hr
  refine r_d rfl rfl rfl (s_callD rfl cl_constraintref03_RightGoal (.cons rfl (Wk.refl _) .nil) (lx_constraintref03_RightGoal _ _ hr_1)) ?_
  refine r_d rfl rfl rfl (s_not rfl rfl) ?_
  refine r_end ?_
  refine g_sB 6 rfl hr (fun h6_1 hr => ?_) (fun h6_1 hr => ?_)
  ·
   refine g_condT rfl ?_
   refine g_seq ?_
   refine g_run (by kernel_rfl) [(0, .d), (1, .d), (2, .d), (3, .w)] rfl ?_
   refine r_d rfl rfl rfl (s_move rfl rfl) ?_
   refine r_d rfl rfl rfl (s_nilCheckR rfl rfl) ?_
   refine r_d rfl rfl rfl (s_fieldRef rfl fl_constraintref52_writer_1 rfl) ?_
   refine r_w01 rfl rfl rfl (t_store _ rfl rfl rfl (Wk.refl _) (pf0 _) rfl rfl (by exact ty_bool) rfl rfl rfl) ?_
   refine r_end ?_
   obtain rfl := Option.some.inj hr
   refine g_ret Tryz.func138 _ .nil ?_
   exact ⟨rfl, rfl⟩
  ·
   refine g_condF rfl ?_
   refine g_skip ?_
   refine g_seq ?_
   refine g_run (by kernel_rfl) [(0, .d), (1, .d), (2, .d), (3, .w)] rfl ?_
   refine r_d rfl rfl rfl (s_move rfl rfl) ?_
   refine r_d rfl rfl rfl (s_fieldAddr rfl fl_api_Goal_0 rfl rfl rfl rfl) ?_
   refine r_d rfl rfl rfl (s_load rfl rfl (by exact ty_int) rfl) ?_
   obtain ⟨r_3, hr_3, hr⟩ := bindS hr
   refine r_w rfl rfl rfl (s_call _ rfl cl_Pconstraintref52_writer_num (.cons rfl (Wk.refl _) (.cons rfl (Wk.refl _) (.cons rfl (Wk.refl _) (.cons rfl (Wk.refl _) .nil)))) (by exact (pf0 _)) (lg_Pconstraintref52_writer_num_s1 _ _ _ _ _ _ hr_3)) ?_
   rintro _ _ ⟨_, ⟨rfl, rfl⟩, rfl⟩
   refine r_st ((.cell b_o0 (enc_S_constraintref52_writer r_3)) :: _) rfl ?_
   refine r_end ?_
   refine g_seq ?_
   refine g_run (by kernel_rfl) [(0, .d), (1, .d), (2, .d), (3, .w)] rfl ?_
   refine r_d rfl rfl rfl (s_move rfl rfl) ?_
   refine r_d rfl rfl rfl (s_fieldAddr rfl fl_api_Goal_1 rfl rfl rfl rfl) ?_
   refine r_d rfl rfl rfl (s_load rfl rfl (by exact ty_string) rfl) ?_
   obtain ⟨r_4, hr_4, hr⟩ := bindS hr
   refine r_w rfl rfl rfl (s_call _ rfl cl_Pconstraintref52_writer_text (.cons rfl (Wk.refl _) (.cons rfl (Wk.refl _) .nil)) (by exact (pf0 _)) (lg_Pconstraintref52_writer_text_s1 _ _ _ _ hr_4)) ?_
   rintro _ _ ⟨_, ⟨rfl, rfl⟩, rfl⟩
   refine r_st ((.cell b_o0 (enc_S_constraintref52_writer r_4)) :: _) rfl ?_
   refine r_end ?_
   refine g_run (by kernel_rfl) [(0, .d), (1, .d), (2, .d), (3, .w)] rfl ?_
   refine r_d rfl rfl rfl (s_move rfl rfl) ?_
   refine r_d rfl rfl rfl (s_fieldAddr rfl fl_api_Goal_2 rfl rfl rfl rfl) ?_
   refine r_d rfl rfl rfl (s_load rfl rfl (by exact ty_L_api_Term) rfl) ?_
   obtain ⟨r_5, hr_5, hr⟩ := bindS hr
   refine r_w rfl rfl rfl (s_call _ rfl cl_Pconstraintref52_writer_terms (.cons rfl (Wk.refl _) (.cons rfl (Wk.refl _) .nil)) (by exact (pf0 _)) (lg_Pconstraintref52_writer_terms_s1 fuel _ _ _ _ hr_5)) ?_
   rintro _ _ ⟨_, ⟨rfl, rfl⟩, rfl⟩
   refine r_st ((.cell b_o0 (enc_S_constraintref52_writer r_5)) :: _) rfl ?_
   refine r_end ?_
   obtain rfl := Option.some.inj hr
   refine g_end Tryz.func138 _ .nil ?_
   exact ⟨rfl, rfl⟩

noncomputable def lf_Pconstraintref52_writer_bytes_s1 (c_0 : S_constraintref52_writer) : Option ((List Int)) :=
  (bif c_0.f1_bad then
  some ([])
  else
  some (c_0.f0_b))

set_option maxHeartbeats 1000000 in
theorem lg_Pconstraintref52_writer_bytes_s1 (c_0 : S_constraintref52_writer) (b_o0 : Nat) (res : (List Int)) (hr : lf_Pconstraintref52_writer_bytes_s1 c_0 = some res) : Spec Tryz.prog 45 [.ref b_o0 0 []] [.cell b_o0 (enc_S_constraintref52_writer c_0)] (fun d σ => d = .lst (res.map (D.int .u8)) ∧ σ = [.cell b_o0 (enc_S_constraintref52_writer c_0)]) := by
  unfold lf_Pconstraintref52_writer_bytes_s1 at hr
  refine spec_env [(0, .ref b_o0 0 [])] Tryz.func45 rfl rfl fun K hK => ?_
  refine g_seq ?_
  refine g_run (by kernel_rfl) [(0, .d)] rfl ?_
  refine r_d rfl rfl rfl (s_assign rfl rfl) ?_
  refine r_end ?_
  refine g_seq ?_
  refine g_seq ?_
  refine g_run (by kernel_rfl) [(0, .d), (1, .d), (2, .d), (3, .r)] rfl ?_
  refine r_d rfl rfl rfl (s_move rfl rfl) ?_
  refine r_d rfl rfl rfl (s_nilCheckR rfl rfl) ?_
  refine r_d rfl rfl rfl (s_fieldRef rfl fl_constraintref52_writer_1 rfl) ?_
  refine r_r rfl rfl rfl (t_loadRef rfl rfl (.head _) rfl rfl (by exact ty_bool) rfl) ?_
  refine r_end ?_
  refine g_sB 6 rfl hr (fun h6_0 hr => ?_) (fun h6_0 hr => ?_)
  ·
   refine g_condT rfl ?_
   refine g_seq ?_
   refine g_run (by kernel_rfl) [(0, .d)] rfl ?_
   refine r_d rfl rfl rfl (s_assign rfl rfl) ?_
   refine r_end ?_
   obtain rfl := Option.some.inj hr
   refine g_ret Tryz.func45 _ (.cons (resTmp rfl (Wk.full _)) .nil) ?_
   exact ⟨rfl, rfl⟩
  ·
   refine g_condF rfl ?_
   refine g_skip ?_
   refine g_seq ?_
   refine g_run (by kernel_rfl) [(0, .d), (1, .d), (2, .d), (3, .r), (4, .d)] rfl ?_
   refine r_d rfl rfl rfl (s_move rfl rfl) ?_
   refine r_d rfl rfl rfl (s_nilCheckR rfl rfl) ?_
   refine r_d rfl rfl rfl (s_fieldRef rfl fl_constraintref52_writer_0 rfl) ?_
   refine r_r rfl rfl rfl (t_loadRef rfl rfl (.head _) rfl rfl (by exact ty_L_uint8) rfl) ?_
   refine r_d rfl rfl rfl (s_assign rfl rfl) ?_
   refine r_end ?_
   obtain rfl := Option.some.inj hr
   refine g_ret Tryz.func45 _ (.cons (resTmp rfl (Wk.refl _)) .nil) ?_
   exact ⟨rfl, rfl⟩

noncomputable def lf_Pconstraintref52_writer_frame_s1 (fuel : Nat) (f_a1 : S_api_Frame) (c_0 : S_constraintref52_writer) : Option (S_constraintref52_writer) :=
  ((lf_Pconstraintref52_writer_num_s1 f_a1.f1_ID 0 2147483648 c_0).bind fun r_1 =>
  ((lf_Pconstraintref52_writer_num_s1 f_a1.f2_Occ (-1) 2147483648 r_1).bind fun r_2 =>
  (bif (f_a1.f1_ID == (0 : Int)) then
  ((lf_Pconstraintref52_writer_goal_s1 fuel f_a1.f0_Goal r_2).bind fun r_4 =>
  some (r_4))
  else
  (bif r_2.f1_bad then
  some ((⟨r_2.f0_b, true⟩ : S_constraintref52_writer))
  else
  (bif (f_a1.f0_Goal.op != (0 : Int)) then
  some ((⟨r_2.f0_b, true⟩ : S_constraintref52_writer))
  else
  (bif (!(f_a1.f0_Goal.n.toList == (⟨#[]⟩ : ByteArray).toList)) then
  some ((⟨r_2.f0_b, true⟩ : S_constraintref52_writer))
  else
  some ((⟨r_2.f0_b, (decide ((f_a1.f0_Goal.ts.length : Int) > (0 : Int)))⟩ : S_constraintref52_writer))))))))

set_option maxHeartbeats 1000000 in
theorem lg_Pconstraintref52_writer_frame_s1 (fuel : Nat) (f_a1 : S_api_Frame) (c_0 : S_constraintref52_writer) (b_o0 : Nat) (res : S_constraintref52_writer) (hr : lf_Pconstraintref52_writer_frame_s1 fuel f_a1 c_0 = some res) : Spec Tryz.prog 71 [.ref b_o0 0 [], enc_S_api_Frame f_a1] [.cell b_o0 (enc_S_constraintref52_writer c_0)] (fun d σ => d = .tup [] ∧ σ = [.cell b_o0 (enc_S_constraintref52_writer res)]) := by
  unfold lf_Pconstraintref52_writer_frame_s1 at hr
  refine spec_env [(0, .ref b_o0 0 []), (1, enc_S_api_Frame f_a1)] Tryz.func71 rfl rfl fun K hK => ?_
  refine g_seq ?_
  refine g_run (by kernel_rfl) [(0, .d)] rfl ?_
  refine r_d rfl rfl rfl (s_box rfl rfl rfl) ?_
  refine r_end ?_
  refine g_seq ?_
  refine g_run (by kernel_rfl) [(0, .d), (1, .d), (2, .d), (3, .w)] rfl ?_
  refine r_d rfl rfl rfl (s_move rfl rfl) ?_
  refine r_d rfl rfl rfl (s_fieldAddr rfl fl_api_Frame_1 rfl rfl (by simp [szs, sz, sz_encG]) rfl) ?_
  refine r_d rfl rfl rfl (s_load rfl rfl (by exact ty_int) rfl) ?_
  obtain ⟨r_1, hr_1, hr⟩ := bindS hr
  refine r_w rfl rfl rfl (s_call _ rfl cl_Pconstraintref52_writer_num (.cons rfl (Wk.refl _) (.cons rfl (Wk.refl _) (.cons rfl (Wk.refl _) (.cons rfl (Wk.refl _) .nil)))) (by exact (pf0 _)) (lg_Pconstraintref52_writer_num_s1 _ _ _ _ _ _ hr_1)) ?_
  rintro _ _ ⟨_, ⟨rfl, rfl⟩, rfl⟩
  refine r_st ((.cell b_o0 (enc_S_constraintref52_writer r_1)) :: _) rfl ?_
  refine r_end ?_
  refine g_seq ?_
  refine g_run (by kernel_rfl) [(0, .d), (1, .d), (2, .d), (3, .w)] rfl ?_
  refine r_d rfl rfl rfl (s_move rfl rfl) ?_
  refine r_d rfl rfl rfl (s_fieldAddr rfl fl_api_Frame_2 rfl rfl (by simp [szs, sz, sz_encG]) rfl) ?_
  refine r_d rfl rfl rfl (s_load rfl rfl (by exact ty_int) rfl) ?_
  obtain ⟨r_2, hr_2, hr⟩ := bindS hr
  refine r_w rfl rfl rfl (s_call _ rfl cl_Pconstraintref52_writer_num (.cons rfl (Wk.refl _) (.cons rfl (Wk.refl _) (.cons rfl (Wk.refl _) (.cons rfl (Wk.refl _) .nil)))) (by exact (pf0 _)) (lg_Pconstraintref52_writer_num_s1 _ _ _ _ _ _ hr_2)) ?_
  rintro _ _ ⟨_, ⟨rfl, rfl⟩, rfl⟩
  refine r_st ((.cell b_o0 (enc_S_constraintref52_writer r_2)) :: _) rfl ?_
  refine r_end ?_
  refine g_seq ?_
  refine g_seq ?_
  refine g_run (by kernel_rfl) [(0, .d), (1, .d), (2, .d)] rfl ?_
  refine r_d rfl rfl rfl (s_fieldAddr rfl fl_api_Frame_1 rfl rfl (by simp [szs, sz, sz_encG]) rfl) ?_
  refine r_d rfl rfl rfl (s_load rfl rfl (by exact ty_int) rfl) ?_
  refine r_d rfl rfl rfl (s_cmp rfl rfl rfl rfl) ?_
  refine r_end ?_
  refine g_sB 14 rfl hr (fun h14_2 hr => ?_) (fun h14_2 hr => ?_)
  ·
   refine g_condT rfl ?_
   refine g_seq ?_
   refine g_run (by kernel_rfl) [(0, .d), (1, .d), (2, .d), (3, .w)] rfl ?_
   refine r_d rfl rfl rfl (s_move rfl rfl) ?_
   refine r_d rfl rfl rfl (s_fieldAddr rfl fl_api_Frame_0 rfl rfl rfl rfl) ?_
   refine r_d rfl rfl rfl (s_load rfl rfl (by exact ty_api_Goal) (sz_encG _)) ?_
   obtain ⟨r_4, hr_4, hr⟩ := bindS hr
   refine r_w rfl rfl rfl (s_call _ rfl cl_Pconstraintref52_writer_goal (.cons rfl (Wk.refl _) (.cons rfl (Wk.refl _) .nil)) (by exact (pf0 _)) (lg_Pconstraintref52_writer_goal_s1 fuel _ _ _ _ hr_4)) ?_
   rintro _ _ ⟨_, ⟨rfl, rfl⟩, rfl⟩
   refine r_st ((.cell b_o0 (enc_S_constraintref52_writer r_4)) :: _) rfl ?_
   refine r_end ?_
   obtain rfl := Option.some.inj hr
   refine g_ret Tryz.func71 _ .nil ?_
   exact ⟨rfl, rfl⟩
  ·
   refine g_condF rfl ?_
   refine g_skip ?_
   refine g_run (by kernel_rfl) [(0, .d), (1, .d), (2, .d), (3, .d), (4, .r), (5, .d), (6, .d), (7, .d), (8, .d), (9, .d), (10, .d), (11, .d), (12, .d), (13, .d), (14, .d), (15, .d), (16, .d), (17, .d), (18, .d), (19, .d), (20, .d), (21, .d), (22, .d), (23, .d), (24, .d), (25, .d), (26, .w)] rfl ?_
   refine r_d rfl rfl rfl (s_move rfl rfl) ?_
   refine r_d rfl rfl rfl (s_move rfl rfl) ?_
   refine r_d rfl rfl rfl (s_nilCheckR rfl rfl) ?_
   refine r_d rfl rfl rfl (s_fieldRef rfl fl_constraintref52_writer_1 rfl) ?_
   refine r_r rfl rfl rfl (t_loadRef rfl rfl (.head _) rfl rfl (by exact ty_bool) rfl) ?_
   refine r_d rfl rfl rfl (s_move rfl rfl) ?_
   refine r_sB 24 rfl hr (fun h24_4 hr => ?_) (fun h24_4 hr => ?_)
   ·
    refine r_skip rfl rfl rfl ?_
    refine r_skip rfl rfl rfl ?_
    refine r_skip rfl rfl rfl ?_
    refine r_skip rfl rfl rfl ?_
    refine r_d rfl rfl rfl (s_pickT rfl rfl rfl) ?_
    refine r_d rfl rfl rfl (s_move rfl rfl) ?_
    refine r_skip rfl rfl rfl ?_
    refine r_skip rfl rfl rfl ?_
    refine r_skip rfl rfl rfl ?_
    refine r_skip rfl rfl rfl ?_
    refine r_d rfl rfl rfl (s_pickT rfl rfl rfl) ?_
    refine r_d rfl rfl rfl (s_move rfl rfl) ?_
    refine r_skip rfl rfl rfl ?_
    refine r_skip rfl rfl rfl ?_
    refine r_skip rfl rfl rfl ?_
    refine r_skip rfl rfl rfl ?_
    refine r_skip rfl rfl rfl ?_
    refine r_d rfl rfl rfl (s_pickT rfl rfl rfl) ?_
    refine r_d rfl rfl rfl (s_nilCheckR rfl rfl) ?_
    refine r_d rfl rfl rfl (s_fieldRef rfl fl_constraintref52_writer_1 rfl) ?_
    refine r_w01 rfl rfl rfl (t_store _ rfl rfl rfl (Wk.refl _) (pf0 _) rfl rfl (by exact ty_bool) rfl rfl rfl) ?_
    refine r_end ?_
    obtain rfl := Option.some.inj hr
    refine g_end Tryz.func71 _ .nil ?_
    exact ⟨rfl, rfl⟩
   ·
    refine r_d rfl rfl rfl (s_fieldAddr rfl fl_api_Frame_0 rfl rfl rfl rfl) ?_
    refine r_d rfl rfl rfl (s_fieldAddr rfl fl_api_Goal_0 rfl rfl rfl rfl) ?_
    refine r_d rfl rfl rfl (s_load rfl rfl (by exact ty_int) rfl) ?_
    refine r_d rfl rfl rfl (s_cmp rfl rfl rfl rfl) ?_
    refine r_d rfl rfl rfl (s_pickF rfl rfl rfl) ?_
    refine r_d rfl rfl rfl (s_move rfl rfl) ?_
    refine r_sB 30 rfl hr (fun h30_5 hr => ?_) (fun h30_5 hr => ?_)
    ·
     refine r_skip rfl rfl rfl ?_
     refine r_skip rfl rfl rfl ?_
     refine r_skip rfl rfl rfl ?_
     refine r_skip rfl rfl rfl ?_
     refine r_d rfl rfl rfl (s_pickT rfl rfl rfl) ?_
     refine r_d rfl rfl rfl (s_move rfl rfl) ?_
     refine r_skip rfl rfl rfl ?_
     refine r_skip rfl rfl rfl ?_
     refine r_skip rfl rfl rfl ?_
     refine r_skip rfl rfl rfl ?_
     refine r_skip rfl rfl rfl ?_
     refine r_d rfl rfl rfl (s_pickT rfl rfl rfl) ?_
     refine r_d rfl rfl rfl (s_nilCheckR rfl rfl) ?_
     refine r_d rfl rfl rfl (s_fieldRef rfl fl_constraintref52_writer_1 rfl) ?_
     refine r_w01 rfl rfl rfl (t_store _ rfl rfl rfl (Wk.refl _) (pf0 _) rfl rfl (by exact ty_bool) rfl rfl rfl) ?_
     refine r_end ?_
     obtain rfl := Option.some.inj hr
     refine g_end Tryz.func71 _ .nil ?_
     exact ⟨rfl, rfl⟩
    ·
     refine r_d rfl rfl rfl (s_fieldAddr rfl fl_api_Frame_0 rfl rfl rfl rfl) ?_
     refine r_d rfl rfl rfl (s_fieldAddr rfl fl_api_Goal_1 rfl rfl rfl rfl) ?_
     refine r_d rfl rfl rfl (s_load rfl rfl (by exact ty_string) rfl) ?_
     refine r_d rfl rfl rfl (s_cmpS rfl rfl rfl rfl) ?_
     refine r_d rfl rfl rfl (s_pickF rfl rfl rfl) ?_
     refine r_d rfl rfl rfl (s_move rfl rfl) ?_
     refine r_sB 36 rfl hr (fun h36_6 hr => ?_) (fun h36_6 hr => ?_)
     ·
      refine r_skip rfl rfl rfl ?_
      refine r_skip rfl rfl rfl ?_
      refine r_skip rfl rfl rfl ?_
      refine r_skip rfl rfl rfl ?_
      refine r_skip rfl rfl rfl ?_
      refine r_d rfl rfl rfl (s_pickT rfl rfl rfl) ?_
      refine r_d rfl rfl rfl (s_nilCheckR rfl rfl) ?_
      refine r_d rfl rfl rfl (s_fieldRef rfl fl_constraintref52_writer_1 rfl) ?_
      refine r_w01 rfl rfl rfl (t_store _ rfl rfl rfl (Wk.refl _) (pf0 _) rfl rfl (by exact ty_bool) rfl rfl rfl) ?_
      refine r_end ?_
      obtain rfl := Option.some.inj hr
      refine g_end Tryz.func71 _ .nil ?_
      exact ⟨rfl, rfl⟩
     ·
      refine r_d rfl rfl rfl (s_fieldAddr rfl fl_api_Frame_0 rfl rfl rfl rfl) ?_
      refine r_d rfl rfl rfl (s_fieldAddr rfl fl_api_Goal_2 rfl rfl rfl rfl) ?_
      refine r_d rfl rfl rfl (s_load rfl rfl (by exact ty_L_api_Term) rfl) ?_
      refine r_d rfl rfl rfl (m_len (f := encT) f_a1.f0_Goal.ts rfl el_L_api_Term rfl (asl rfl)) ?_
      refine r_d rfl rfl rfl (s_cmp rfl rfl rfl rfl) ?_
      refine r_d rfl rfl rfl (s_pickF rfl rfl rfl) ?_
      refine r_d rfl rfl rfl (s_nilCheckR rfl rfl) ?_
      refine r_d rfl rfl rfl (s_fieldRef rfl fl_constraintref52_writer_1 rfl) ?_
      refine r_w01 rfl rfl rfl (t_store _ rfl rfl rfl (Wk.refl _) (pf0 _) rfl rfl (by exact ty_bool) rfl rfl rfl) ?_
      refine r_end ?_
      obtain rfl := Option.some.inj hr
      refine g_end Tryz.func71 _ .nil ?_
      exact ⟨rfl, rfl⟩

noncomputable def lf_Pconstraintref52_writer_nums_s1_L0 (k : (S_constraintref52_writer) → Option (S_constraintref52_writer)) (high_a3 : Int) : List Int → S_constraintref52_writer → Option (S_constraintref52_writer)
  | [], w_3 =>
  (k w_3)
  | q_5 :: rest, w_3 =>
  (bif (!w_3.f1_bad) then
  ((lf_Pconstraintref52_writer_num_s1 q_5 0 high_a3 w_3).bind fun r_7 =>
  (lf_Pconstraintref52_writer_nums_s1_L0 k high_a3 rest r_7))
  else
  (k w_3))
noncomputable def lf_Pconstraintref52_writer_nums_s1 (l_a1 : (List Int)) (most_a2 : Int) (high_a3 : Int) (c_0 : S_constraintref52_writer) : Option (S_constraintref52_writer) :=
  ((lf_Pconstraintref52_writer_num_s1 (l_a1.length : Int) 0 most_a2 c_0).bind fun r_1 =>
  (lf_Pconstraintref52_writer_nums_s1_L0 (fun w_4 =>
  some (w_4)) high_a3 l_a1 r_1))

set_option maxHeartbeats 1000000 in
theorem lg_Pconstraintref52_writer_nums_s1 (l_a1 : (List Int)) (most_a2 : Int) (high_a3 : Int) (c_0 : S_constraintref52_writer) (b_o0 : Nat) (res : S_constraintref52_writer) (hr : lf_Pconstraintref52_writer_nums_s1 l_a1 most_a2 high_a3 c_0 = some res) : Spec Tryz.prog 74 [.ref b_o0 0 [], .lst (l_a1.map (D.int .i64)), .int .i64 most_a2, .int .i64 high_a3] [.cell b_o0 (enc_S_constraintref52_writer c_0)] (fun d σ => d = .tup [] ∧ σ = [.cell b_o0 (enc_S_constraintref52_writer res)]) := by
  unfold lf_Pconstraintref52_writer_nums_s1 at hr
  refine spec_env [(0, .ref b_o0 0 []), (1, .lst (l_a1.map (D.int .i64))), (2, .int .i64 most_a2), (3, .int .i64 high_a3)] Tryz.func74 rfl rfl fun K hK => ?_
  refine g_seq ?_
  refine g_run (by kernel_rfl) [(0, .d), (1, .d), (2, .d), (3, .d), (4, .w)] rfl ?_
  refine r_d rfl rfl rfl (s_move rfl rfl) ?_
  refine r_d rfl rfl rfl (s_move rfl rfl) ?_
  refine r_d rfl rfl rfl (m_len (f := (D.int .i64)) l_a1 rfl el_L_int rfl (asl rfl)) ?_
  refine r_d rfl rfl rfl (s_move rfl rfl) ?_
  obtain ⟨r_1, hr_1, hr⟩ := bindS hr
  refine r_w rfl rfl rfl (s_call _ rfl cl_Pconstraintref52_writer_num (.cons rfl (Wk.refl _) (.cons rfl (Wk.refl _) (.cons rfl (Wk.refl _) (.cons rfl (Wk.refl _) .nil)))) (by exact (pf0 _)) (lg_Pconstraintref52_writer_num_s1 _ _ _ _ _ _ hr_1)) ?_
  rintro _ _ ⟨_, ⟨rfl, rfl⟩, rfl⟩
  refine r_st ((.cell b_o0 (enc_S_constraintref52_writer r_1)) :: _) rfl ?_
  refine r_end ?_
  refine g_seq ?_
  refine g_run (by kernel_rfl) [(0, .d)] rfl ?_
  refine r_d rfl rfl rfl (s_assign rfl rfl) ?_
  refine r_end ?_
  obtain ⟨kk0, hkk0, hr⟩ := exK (fun k => lf_Pconstraintref52_writer_nums_s1_L0 k high_a3 l_a1 r_1) hr
  refine g_len 1 rfl (asl rfl) fun hla0 => ?_
  simp only [List.length_map] at hla0
  refine g_blockJ (fun env σ => ∃ (w_4 : S_constraintref52_writer), env = [] ∧ σ = [.cell b_o0 (enc_S_constraintref52_writer w_4)] ∧ kk0 w_4 = some res) ?_ (fun HK0 => ?_)
  ·
   rintro _ _ ⟨w_4, rfl, rfl, hr⟩
   rw [hkk0] at hr
   obtain rfl := Option.some.inj hr
   refine g_end Tryz.func74 _ .nil ?_
   exact ⟨rfl, rfl⟩
  ·
   refine g_sub [(0, .ref b_o0 0 []), (1, .lst (l_a1.map (D.int .i64))), (3, .int .i64 high_a3), (8, .int .i64 ((0 : Nat) : Int))] (Sub.cons' rfl (Sub.cons' rfl (Sub.cons' rfl (Sub.cons' rfl (Sub.nil _))))) ?_
   refine g_loop (fun n env σ => ∃ (i_2 : Nat) (w_3 : S_constraintref52_writer), (n = l_a1.length - i_2) ∧ (env = [(0, .ref b_o0 0 []), (1, .lst (l_a1.map (D.int .i64))), (3, .int .i64 high_a3), (8, .int .i64 (i_2 : Int))]) ∧ (σ = [.cell b_o0 (enc_S_constraintref52_writer w_3)]) ∧ (i_2 ≤ l_a1.length) ∧ (lf_Pconstraintref52_writer_nums_s1_L0 kk0 high_a3 (l_a1.drop i_2) w_3 = some res)) _ ⟨0, r_1, rfl, rfl, rfl, Nat.zero_le _, hr⟩ ?_
   rintro n _ _ ⟨i_2, w_3, rfl, rfl, rfl, hi0, hr⟩ IH0
   rcases listStep l_a1 i_2 hi0 with ⟨ht0, hd0, he0⟩ | ⟨q_5, ht0, hd0, hq0, hlt0⟩
   ·
    rw [hd0, lf_Pconstraintref52_writer_nums_s1_L0] at hr
    refine g_seq ?_
    refine g_seq ?_
    refine g_run (by kernel_rfl) [(0, .d), (1, .d), (2, .d), (3, .d), (4, .d), (5, .d), (6, .d), (7, .d), (8, .r), (9, .d), (10, .d)] rfl ?_
    refine r_d rfl rfl rfl (s_move rfl rfl) ?_
    refine r_d rfl rfl rfl (s_move rfl rfl) ?_
    refine r_d rfl rfl rfl (m_len (f := (D.int .i64)) l_a1 rfl el_L_int rfl (asl rfl)) ?_
    refine r_d rfl rfl rfl (s_cmp rfl rfl rfl rfl) ?_
    refine r_d rfl rfl rfl (s_move rfl rfl) ?_
    refine r_known 18 false rfl ht0 ?_
    refine r_skip rfl rfl rfl ?_
    refine r_skip rfl rfl rfl ?_
    refine r_skip rfl rfl rfl ?_
    refine r_skip rfl rfl rfl ?_
    refine r_skip rfl rfl rfl ?_
    refine r_d rfl rfl rfl (s_pickF rfl rfl rfl) ?_
    refine r_end ?_
    refine g_condF rfl ?_
    refine g_exit rfl ?_
    refine g_sub [] (Sub.nil _) ?_
    exact HK0 _ _ ⟨w_3, rfl, rfl, hr⟩
   ·
    rw [hd0, lf_Pconstraintref52_writer_nums_s1_L0] at hr
    refine g_seq ?_
    refine g_seq ?_
    refine g_run (by kernel_rfl) [(0, .d), (1, .d), (2, .d), (3, .d), (4, .d), (5, .d), (6, .d), (7, .d), (8, .r), (9, .d), (10, .d)] rfl ?_
    refine r_d rfl rfl rfl (s_move rfl rfl) ?_
    refine r_d rfl rfl rfl (s_move rfl rfl) ?_
    refine r_d rfl rfl rfl (m_len (f := (D.int .i64)) l_a1 rfl el_L_int rfl (asl rfl)) ?_
    refine r_d rfl rfl rfl (s_cmp rfl rfl rfl rfl) ?_
    refine r_d rfl rfl rfl (s_move rfl rfl) ?_
    refine r_known 18 true rfl ht0 ?_
    refine r_d rfl rfl rfl (s_move rfl rfl) ?_
    refine r_d rfl rfl rfl (s_nilCheckR rfl rfl) ?_
    refine r_d rfl rfl rfl (s_fieldRef rfl fl_constraintref52_writer_1 rfl) ?_
    refine r_r rfl rfl rfl (t_loadRef rfl rfl (.head _) rfl rfl (by exact ty_bool) rfl) ?_
    refine r_d rfl rfl rfl (s_not rfl rfl) ?_
    refine r_d rfl rfl rfl (s_pickT rfl rfl rfl) ?_
    refine r_end ?_
    refine g_sB 24 rfl hr (fun h24_5 hr => ?_) (fun h24_5 hr => ?_)
    ·
     refine g_condT rfl ?_
     refine g_skip ?_
     refine g_seq ?_
     refine g_block ?_
     refine g_run (by kernel_rfl) [(0, .d), (1, .d), (2, .d), (3, .d), (4, .d), (5, .d), (6, .w)] rfl ?_
     refine r_d rfl rfl rfl (s_move rfl rfl) ?_
     refine r_d rfl rfl rfl (s_move rfl rfl) ?_
     refine r_d rfl rfl rfl (s_move rfl rfl) ?_
     refine r_d rfl rfl rfl (m_index (f := (D.int .i64)) l_a1 rfl el_L_int rfl (asl rfl) rfl hq0 (fun _ => rfl) rfl) ?_
     refine r_d rfl rfl rfl (s_load rfl rfl (by exact ty_int) rfl) ?_
     refine r_d rfl rfl rfl (s_move rfl rfl) ?_
     obtain ⟨r_7, hr_7, hr⟩ := bindS hr
     refine r_w rfl rfl rfl (s_call _ rfl cl_Pconstraintref52_writer_num (.cons rfl (Wk.refl _) (.cons rfl (Wk.refl _) (.cons rfl (Wk.refl _) (.cons rfl (Wk.refl _) .nil)))) (by exact (pf0 _)) (lg_Pconstraintref52_writer_num_s1 _ _ _ _ _ _ hr_7)) ?_
     rintro _ _ ⟨_, ⟨rfl, rfl⟩, rfl⟩
     refine r_st ((.cell b_o0 (enc_S_constraintref52_writer r_7)) :: _) rfl ?_
     refine r_end ?_
     refine g_inBlock ?_
     refine g_run (by kernel_rfl) [(0, .d), (1, .d), (2, .d)] rfl ?_
     refine r_d rfl rfl rfl (s_move rfl rfl) ?_
     refine r_d rfl rfl rfl (s_ar (r := ((i_2 + 1 : Nat) : Int)) rfl rfl rfl (by simp [iar]) (by omega)) ?_
     refine r_d rfl rfl rfl (s_assign rfl rfl) ?_
     refine r_end ?_
     refine g_sub [(0, .ref b_o0 0 []), (1, .lst (l_a1.map (D.int .i64))), (3, .int .i64 high_a3), (8, .int .i64 ((i_2 + 1 : Nat) : Int))] (Sub.cons' rfl (Sub.cons' rfl (Sub.cons' rfl (Sub.cons' rfl (Sub.nil _))))) ?_
     exact IH0 _ _ _ (by omega) ⟨(i_2 + 1), r_7, rfl, rfl, rfl, (by omega), hr⟩
    ·
     refine g_condF rfl ?_
     refine g_exit rfl ?_
     refine g_sub [] (Sub.nil _) ?_
     exact HK0 _ _ ⟨w_3, rfl, rfl, hr⟩

noncomputable def lf_Pconstraintref52_writer_flag_s1 (x_a1 : Bool) (c_0 : S_constraintref52_writer) : Option (S_constraintref52_writer) :=
  ((x_cPutBool c_0.f0_b x_a1).bind fun r_1 =>
  some ((⟨r_1, c_0.f1_bad⟩ : S_constraintref52_writer)))

set_option maxHeartbeats 1000000 in
theorem lg_Pconstraintref52_writer_flag_s1 (x_a1 : Bool) (c_0 : S_constraintref52_writer) (b_o0 : Nat) (res : S_constraintref52_writer) (hr : lf_Pconstraintref52_writer_flag_s1 x_a1 c_0 = some res) : Spec Tryz.prog 75 [.ref b_o0 0 [], .bool x_a1] [.cell b_o0 (enc_S_constraintref52_writer c_0)] (fun d σ => d = .tup [] ∧ σ = [.cell b_o0 (enc_S_constraintref52_writer res)]) := by
  unfold lf_Pconstraintref52_writer_flag_s1 at hr
  refine spec_env [(0, .ref b_o0 0 []), (1, .bool x_a1)] Tryz.func75 rfl rfl fun K hK => ?_
  refine g_run (by kernel_rfl) [(0, .d), (1, .d), (2, .d), (3, .d), (4, .r), (5, .d), (6, .d), (7, .d), (8, .d), (9, .w)] rfl ?_
  refine r_d rfl rfl rfl (s_move rfl rfl) ?_
  refine r_d rfl rfl rfl (s_move rfl rfl) ?_
  refine r_d rfl rfl rfl (s_nilCheckR rfl rfl) ?_
  refine r_d rfl rfl rfl (s_fieldRef rfl fl_constraintref52_writer_0 rfl) ?_
  refine r_r rfl rfl rfl (t_loadRef rfl rfl (.head _) rfl rfl (by exact ty_L_uint8) rfl) ?_
  refine r_d rfl rfl rfl (s_move rfl rfl) ?_
  obtain ⟨r_1, hr_1, hr⟩ := bindS hr
  refine r_d rfl rfl rfl (s_callD rfl cl_constraintref01_PutBool (.cons rfl (Wk.refl _) (.cons rfl (Wk.refl _) .nil)) (lx_constraintref01_PutBool _ _ _ hr_1)) ?_
  refine r_d rfl rfl rfl (s_nilCheckR rfl rfl) ?_
  refine r_d rfl rfl rfl (s_fieldRef rfl fl_constraintref52_writer_0 rfl) ?_
  refine r_w01 rfl rfl rfl (t_store _ rfl rfl rfl (Wk.refl _) (pf0 _) rfl rfl (by exact ty_L_uint8) rfl rfl rfl) ?_
  refine r_end ?_
  obtain rfl := Option.some.inj hr
  refine g_end Tryz.func75 _ .nil ?_
  exact ⟨rfl, rfl⟩

noncomputable def lf_constraintref52_Config_L3 (k : (S_constraintref52_writer) → Option ((List Int))) : List S_api_Fire → S_constraintref52_writer → Option ((List Int))
  | [], w_17 =>
  (k w_17)
  | q_23 :: rest, w_17 =>
  (bif (!w_17.f1_bad) then
  ((lf_Pconstraintref52_writer_num_s1 q_23.f0_Rule 0 40 w_17).bind fun r_25 =>
  ((lf_Pconstraintref52_writer_nums_s1 q_23.f1_IDs 4 2147483648 r_25).bind fun r_26 =>
  (lf_constraintref52_Config_L3 k rest r_26)))
  else
  (k w_17))

noncomputable def lf_constraintref52_Config_L2 (k : (S_constraintref52_writer) → Option ((List Int))) (fuel : Nat) : List (Int × T) → S_constraintref52_writer → Option ((List Int))
  | [], w_13 =>
  (k w_13)
  | q_27 :: rest, w_13 =>
  (bif (!w_13.f1_bad) then
  ((lf_Pconstraintref52_writer_num_s1 q_27.1 0 1048576 w_13).bind fun r_29 =>
  ((lf_Pconstraintref52_writer_term_s1 fuel q_27.2 r_29).bind fun r_30 =>
  (lf_constraintref52_Config_L2 k fuel rest r_30)))
  else
  (k w_13))

noncomputable def lf_constraintref52_Config_L1 (k : (S_constraintref52_writer) → Option ((List Int))) (fuel : Nat) : List (Int × At) → S_constraintref52_writer → Option ((List Int))
  | [], w_9 =>
  (k w_9)
  | q_31 :: rest, w_9 =>
  (bif (!w_9.f1_bad) then
  ((lf_Pconstraintref52_writer_num_s1 q_31.1 0 2147483648 w_9).bind fun r_33 =>
  ((lf_Pconstraintref52_writer_atom_s1 fuel q_31.2 r_33).bind fun r_34 =>
  (lf_constraintref52_Config_L1 k fuel rest r_34)))
  else
  (k w_9))

noncomputable def lf_constraintref52_Config_L0 (k : (S_constraintref52_writer) → Option ((List Int))) (fuel : Nat) : List S_api_Frame → S_constraintref52_writer → Option ((List Int))
  | [], t9_5 =>
  (k t9_5)
  | q_35 :: rest, t9_5 =>
  (bif (!t9_5.f1_bad) then
  ((lf_Pconstraintref52_writer_frame_s1 fuel q_35 t9_5).bind fun r_37 =>
  (lf_constraintref52_Config_L0 k fuel rest r_37))
  else
  (k t9_5))
noncomputable def lf_constraintref52_Config (fuel : Nat) (c_a0 : S_api_Config) : Option ((List Int)) :=
  ((lf_Pconstraintref52_writer_num_s1 2 2 2 (⟨[], false⟩ : S_constraintref52_writer)).bind fun r_2 =>
  ((lf_Pconstraintref52_writer_num_s1 (c_a0.f0_Stack.length : Int) 0 1000 r_2).bind fun r_3 =>
  (lf_constraintref52_Config_L0 (fun t9_6 =>
  ((lf_Pconstraintref52_writer_num_s1 (c_a0.f1_Store.length : Int) 0 500 t9_6).bind fun r_7 =>
  (lf_constraintref52_Config_L1 (fun w_10 =>
  ((lf_Pconstraintref52_writer_num_s1 (c_a0.f2_Binds.length : Int) 0 1048576 w_10).bind fun r_11 =>
  (lf_constraintref52_Config_L2 (fun w_14 =>
  ((lf_Pconstraintref52_writer_num_s1 (c_a0.f3_Fired.length : Int) 0 5000 w_14).bind fun r_15 =>
  (lf_constraintref52_Config_L3 (fun w_18 =>
  ((lf_Pconstraintref52_writer_num_s1 c_a0.f4_Next 0 2147483648 w_18).bind fun r_19 =>
  ((lf_Pconstraintref52_writer_num_s1 c_a0.f5_Fresh 0 1048576 r_19).bind fun r_20 =>
  ((lf_Pconstraintref52_writer_flag_s1 c_a0.f6_Failed r_20).bind fun r_21 =>
  ((lf_Pconstraintref52_writer_bytes_s1 r_21).bind fun r_22 =>
  some (r_22)))))) c_a0.f3_Fired r_15))) fuel c_a0.f2_Binds r_11))) fuel c_a0.f1_Store r_7))) fuel c_a0.f0_Stack r_3)))

set_option maxHeartbeats 1000000 in
theorem lg_constraintref52_Config (fuel : Nat) (c_a0 : S_api_Config) (res : (List Int)) (hr : lf_constraintref52_Config fuel c_a0 = some res) : Gives Tryz.prog 18 [enc_S_api_Config c_a0] (.lst (res.map (D.int .u8))) := by
  unfold lf_constraintref52_Config at hr
  refine spec_env [(0, enc_S_api_Config c_a0)] Tryz.func18 rfl rfl fun K hK => ?_
  refine g_seq ?_
  refine g_run (by kernel_rfl) [(0, .d), (1, .d)] rfl ?_
  refine r_d rfl rfl rfl (s_box rfl rfl rfl) ?_
  refine r_d rfl rfl rfl (s_assign rfl rfl) ?_
  refine r_end ?_
  refine g_seq ?_
  refine g_run (by kernel_rfl) [(0, .d), (1, .w), (2, .d)] rfl ?_
  refine r_d rfl rfl rfl (s_build rfl bt_constraintref52_writer .nil (.nil _)) ?_
  refine r_w rfl rfl rfl (s_boxRef rfl rfl rfl) ?_
  rintro _ _ ⟨b9_0, rfl, rfl⟩
  refine r_d rfl rfl rfl (s_assign rfl rfl) ?_
  refine r_end ?_
  refine g_seq ?_
  refine g_run (by kernel_rfl) [(0, .d), (1, .w)] rfl ?_
  refine r_d rfl rfl rfl (s_move rfl rfl) ?_
  obtain ⟨r_2, hr_2, hr⟩ := bindS hr
  refine r_w rfl rfl rfl (s_call _ rfl cl_Pconstraintref52_writer_num (.cons rfl (Wk.refl _) (.cons rfl (Wk.refl _) (.cons rfl (Wk.refl _) (.cons rfl (Wk.refl _) .nil)))) (by exact (pf0 _)) (lg_Pconstraintref52_writer_num_s1 _ _ _ _ _ _ hr_2)) ?_
  rintro _ _ ⟨_, ⟨rfl, rfl⟩, rfl⟩
  refine r_st ((.cell b9_0 (enc_S_constraintref52_writer r_2)) :: _) rfl ?_
  refine r_end ?_
  refine g_seq ?_
  refine g_run (by kernel_rfl) [(0, .d), (1, .d), (2, .d), (3, .d), (4, .w)] rfl ?_
  refine r_d rfl rfl rfl (s_move rfl rfl) ?_
  refine r_d rfl rfl rfl (s_fieldAddr rfl fl_api_Config_0 rfl rfl rfl rfl) ?_
  refine r_d rfl rfl rfl (s_load rfl rfl (by exact ty_L_api_Frame) rfl) ?_
  refine r_d rfl rfl rfl (m_len (f := enc_S_api_Frame) c_a0.f0_Stack rfl el_L_api_Frame rfl (asl rfl)) ?_
  obtain ⟨r_3, hr_3, hr⟩ := bindS hr
  refine r_w rfl rfl rfl (s_call _ rfl cl_Pconstraintref52_writer_num (.cons rfl (Wk.refl _) (.cons rfl (Wk.refl _) (.cons rfl (Wk.refl _) (.cons rfl (Wk.refl _) .nil)))) (by exact (pf0 _)) (lg_Pconstraintref52_writer_num_s1 _ _ _ _ _ _ hr_3)) ?_
  rintro _ _ ⟨_, ⟨rfl, rfl⟩, rfl⟩
  refine r_st ((.cell b9_0 (enc_S_constraintref52_writer r_3)) :: _) rfl ?_
  refine r_end ?_
  refine g_seq ?_
  refine g_seq ?_
  refine g_run (by kernel_rfl) [(0, .d)] rfl ?_
  refine r_d rfl rfl rfl (s_assign rfl rfl) ?_
  refine r_end ?_
  obtain ⟨kk0, hkk0, hr⟩ := exK (fun k => lf_constraintref52_Config_L0 k fuel c_a0.f0_Stack r_3) hr
  refine g_len 14 rfl (asl rfl) fun hla0 => ?_
  simp only [List.length_map] at hla0
  refine g_blockJ (fun env σ => ∃ (t9_6 : S_constraintref52_writer), env = [(1, .ptr (enc_S_api_Config c_a0)), (3, .ref b9_0 0 [])] ∧ σ = [.cell b9_0 (enc_S_constraintref52_writer t9_6)] ∧ kk0 t9_6 = some res) ?_ (fun HK0 => ?_)
  ·
   rintro _ _ ⟨t9_6, rfl, rfl, hr⟩
   rw [hkk0] at hr
   refine g_seq ?_
   refine g_run (by kernel_rfl) [(0, .d), (1, .d), (2, .d), (3, .d), (4, .w)] rfl ?_
   refine r_d rfl rfl rfl (s_move rfl rfl) ?_
   refine r_d rfl rfl rfl (s_fieldAddr rfl fl_api_Config_1 rfl rfl rfl rfl) ?_
   refine r_d rfl rfl rfl (s_load rfl rfl (by exact ty_L_api_Item) rfl) ?_
   refine r_d rfl rfl rfl (m_len (f := encIt) c_a0.f1_Store rfl el_L_api_Item rfl (asl rfl)) ?_
   obtain ⟨r_7, hr_7, hr⟩ := bindS hr
   refine r_w rfl rfl rfl (s_call _ rfl cl_Pconstraintref52_writer_num (.cons rfl (Wk.refl _) (.cons rfl (Wk.refl _) (.cons rfl (Wk.refl _) (.cons rfl (Wk.refl _) .nil)))) (by exact (pf0 _)) (lg_Pconstraintref52_writer_num_s1 _ _ _ _ _ _ hr_7)) ?_
   rintro _ _ ⟨_, ⟨rfl, rfl⟩, rfl⟩
   refine r_st ((.cell b9_0 (enc_S_constraintref52_writer r_7)) :: _) rfl ?_
   refine r_end ?_
   refine g_seq ?_
   refine g_seq ?_
   refine g_run (by kernel_rfl) [(0, .d)] rfl ?_
   refine r_d rfl rfl rfl (s_assign rfl rfl) ?_
   refine r_end ?_
   obtain ⟨kk1, hkk1, hr⟩ := exK (fun k => lf_constraintref52_Config_L1 k fuel c_a0.f1_Store r_7) hr
   refine g_len 40 rfl (asl rfl) fun hla1 => ?_
   simp only [List.length_map] at hla1
   refine g_blockJ (fun env σ => ∃ (w_10 : S_constraintref52_writer), env = [(1, .ptr (enc_S_api_Config c_a0)), (3, .ref b9_0 0 [])] ∧ σ = [.cell b9_0 (enc_S_constraintref52_writer w_10)] ∧ kk1 w_10 = some res) ?_ (fun HK1 => ?_)
   ·
    rintro _ _ ⟨w_10, rfl, rfl, hr⟩
    rw [hkk1] at hr
    refine g_seq ?_
    refine g_run (by kernel_rfl) [(0, .d), (1, .d), (2, .d), (3, .d), (4, .w)] rfl ?_
    refine r_d rfl rfl rfl (s_move rfl rfl) ?_
    refine r_d rfl rfl rfl (s_fieldAddr rfl fl_api_Config_2 rfl rfl rfl rfl) ?_
    refine r_d rfl rfl rfl (s_load rfl rfl (by exact ty_api_Binds) rfl) ?_
    refine r_d rfl rfl rfl (m_len (f := encP) c_a0.f2_Binds rfl el_api_Binds rfl (asl rfl)) ?_
    obtain ⟨r_11, hr_11, hr⟩ := bindS hr
    refine r_w rfl rfl rfl (s_call _ rfl cl_Pconstraintref52_writer_num (.cons rfl (Wk.refl _) (.cons rfl (Wk.refl _) (.cons rfl (Wk.refl _) (.cons rfl (Wk.refl _) .nil)))) (by exact (pf0 _)) (lg_Pconstraintref52_writer_num_s1 _ _ _ _ _ _ hr_11)) ?_
    rintro _ _ ⟨_, ⟨rfl, rfl⟩, rfl⟩
    refine r_st ((.cell b9_0 (enc_S_constraintref52_writer r_11)) :: _) rfl ?_
    refine r_end ?_
    refine g_seq ?_
    refine g_seq ?_
    refine g_run (by kernel_rfl) [(0, .d)] rfl ?_
    refine r_d rfl rfl rfl (s_assign rfl rfl) ?_
    refine r_end ?_
    obtain ⟨kk2, hkk2, hr⟩ := exK (fun k => lf_constraintref52_Config_L2 k fuel c_a0.f2_Binds r_11) hr
    refine g_len 75 rfl (asl rfl) fun hla2 => ?_
    simp only [List.length_map] at hla2
    refine g_blockJ (fun env σ => ∃ (w_14 : S_constraintref52_writer), env = [(1, .ptr (enc_S_api_Config c_a0)), (3, .ref b9_0 0 [])] ∧ σ = [.cell b9_0 (enc_S_constraintref52_writer w_14)] ∧ kk2 w_14 = some res) ?_ (fun HK2 => ?_)
    ·
     rintro _ _ ⟨w_14, rfl, rfl, hr⟩
     rw [hkk2] at hr
     refine g_seq ?_
     refine g_run (by kernel_rfl) [(0, .d), (1, .d), (2, .d), (3, .d), (4, .w)] rfl ?_
     refine r_d rfl rfl rfl (s_move rfl rfl) ?_
     refine r_d rfl rfl rfl (s_fieldAddr rfl fl_api_Config_3 rfl rfl rfl rfl) ?_
     refine r_d rfl rfl rfl (s_load rfl rfl (by exact ty_L_api_Fire) rfl) ?_
     refine r_d rfl rfl rfl (m_len (f := enc_S_api_Fire) c_a0.f3_Fired rfl el_L_api_Fire rfl (asl rfl)) ?_
     obtain ⟨r_15, hr_15, hr⟩ := bindS hr
     refine r_w rfl rfl rfl (s_call _ rfl cl_Pconstraintref52_writer_num (.cons rfl (Wk.refl _) (.cons rfl (Wk.refl _) (.cons rfl (Wk.refl _) (.cons rfl (Wk.refl _) .nil)))) (by exact (pf0 _)) (lg_Pconstraintref52_writer_num_s1 _ _ _ _ _ _ hr_15)) ?_
     rintro _ _ ⟨_, ⟨rfl, rfl⟩, rfl⟩
     refine r_st ((.cell b9_0 (enc_S_constraintref52_writer r_15)) :: _) rfl ?_
     refine r_end ?_
     refine g_seq ?_
     refine g_seq ?_
     refine g_run (by kernel_rfl) [(0, .d)] rfl ?_
     refine r_d rfl rfl rfl (s_assign rfl rfl) ?_
     refine r_end ?_
     obtain ⟨kk3, hkk3, hr⟩ := exK (fun k => lf_constraintref52_Config_L3 k c_a0.f3_Fired r_15) hr
     refine g_len 110 rfl (asl rfl) fun hla3 => ?_
     simp only [List.length_map] at hla3
     refine g_blockJ (fun env σ => ∃ (w_18 : S_constraintref52_writer), env = [(1, .ptr (enc_S_api_Config c_a0)), (3, .ref b9_0 0 [])] ∧ σ = [.cell b9_0 (enc_S_constraintref52_writer w_18)] ∧ kk3 w_18 = some res) ?_ (fun HK3 => ?_)
     ·
      rintro _ _ ⟨w_18, rfl, rfl, hr⟩
      rw [hkk3] at hr
      refine g_seq ?_
      refine g_run (by kernel_rfl) [(0, .d), (1, .d), (2, .d), (3, .w)] rfl ?_
      refine r_d rfl rfl rfl (s_move rfl rfl) ?_
      refine r_d rfl rfl rfl (s_fieldAddr rfl fl_api_Config_4 rfl rfl rfl rfl) ?_
      refine r_d rfl rfl rfl (s_load rfl rfl (by exact ty_int) rfl) ?_
      obtain ⟨r_19, hr_19, hr⟩ := bindS hr
      refine r_w rfl rfl rfl (s_call _ rfl cl_Pconstraintref52_writer_num (.cons rfl (Wk.refl _) (.cons rfl (Wk.refl _) (.cons rfl (Wk.refl _) (.cons rfl (Wk.refl _) .nil)))) (by exact (pf0 _)) (lg_Pconstraintref52_writer_num_s1 _ _ _ _ _ _ hr_19)) ?_
      rintro _ _ ⟨_, ⟨rfl, rfl⟩, rfl⟩
      refine r_st ((.cell b9_0 (enc_S_constraintref52_writer r_19)) :: _) rfl ?_
      refine r_end ?_
      refine g_seq ?_
      refine g_run (by kernel_rfl) [(0, .d), (1, .d), (2, .d), (3, .w)] rfl ?_
      refine r_d rfl rfl rfl (s_move rfl rfl) ?_
      refine r_d rfl rfl rfl (s_fieldAddr rfl fl_api_Config_5 rfl rfl rfl rfl) ?_
      refine r_d rfl rfl rfl (s_load rfl rfl (by exact ty_int) rfl) ?_
      obtain ⟨r_20, hr_20, hr⟩ := bindS hr
      refine r_w rfl rfl rfl (s_call _ rfl cl_Pconstraintref52_writer_num (.cons rfl (Wk.refl _) (.cons rfl (Wk.refl _) (.cons rfl (Wk.refl _) (.cons rfl (Wk.refl _) .nil)))) (by exact (pf0 _)) (lg_Pconstraintref52_writer_num_s1 _ _ _ _ _ _ hr_20)) ?_
      rintro _ _ ⟨_, ⟨rfl, rfl⟩, rfl⟩
      refine r_st ((.cell b9_0 (enc_S_constraintref52_writer r_20)) :: _) rfl ?_
      refine r_end ?_
      refine g_seq ?_
      refine g_run (by kernel_rfl) [(0, .d), (1, .d), (2, .d), (3, .w)] rfl ?_
      refine r_d rfl rfl rfl (s_move rfl rfl) ?_
      refine r_d rfl rfl rfl (s_fieldAddr rfl fl_api_Config_6 rfl rfl rfl rfl) ?_
      refine r_d rfl rfl rfl (s_load rfl rfl (by exact ty_bool) rfl) ?_
      obtain ⟨r_21, hr_21, hr⟩ := bindS hr
      refine r_w rfl rfl rfl (s_call _ rfl cl_Pconstraintref52_writer_flag (.cons rfl (Wk.refl _) (.cons rfl (Wk.refl _) .nil)) (by exact (pf0 _)) (lg_Pconstraintref52_writer_flag_s1 _ _ _ _ hr_21)) ?_
      rintro _ _ ⟨_, ⟨rfl, rfl⟩, rfl⟩
      refine r_st ((.cell b9_0 (enc_S_constraintref52_writer r_21)) :: _) rfl ?_
      refine r_end ?_
      refine g_seq ?_
      refine g_run (by kernel_rfl) [(0, .d), (1, .w), (2, .d)] rfl ?_
      refine r_d rfl rfl rfl (s_move rfl rfl) ?_
      obtain ⟨r_22, hr_22, hr⟩ := bindS hr
      refine r_w rfl rfl rfl (s_call _ rfl cl_Pconstraintref52_writer_bytes (.cons rfl (Wk.refl _) .nil) (by exact (pf0 _)) (lg_Pconstraintref52_writer_bytes_s1 _ _ _ hr_22)) ?_
      rintro _ _ ⟨_, ⟨rfl, rfl⟩, rfl⟩
      refine r_st ((.cell b9_0 (enc_S_constraintref52_writer r_21)) :: _) rfl ?_
      refine r_d rfl rfl rfl (s_assign rfl rfl) ?_
      refine r_end ?_
      obtain rfl := Option.some.inj hr
      refine g_ret Tryz.func18 _ (.cons (resTmp rfl (Wk.refl _)) .nil) ?_
      rfl
     ·
      refine g_sub [(1, .ptr (enc_S_api_Config c_a0)), (3, .ref b9_0 0 []), (7, .int .i64 ((0 : Nat) : Int))] (Sub.cons' rfl (Sub.cons' rfl (Sub.cons' rfl (Sub.nil _)))) ?_
      refine g_loop (fun n env σ => ∃ (i_16 : Nat) (w_17 : S_constraintref52_writer), (n = c_a0.f3_Fired.length - i_16) ∧ (env = [(1, .ptr (enc_S_api_Config c_a0)), (3, .ref b9_0 0 []), (7, .int .i64 (i_16 : Int))]) ∧ (σ = [.cell b9_0 (enc_S_constraintref52_writer w_17)]) ∧ (i_16 ≤ c_a0.f3_Fired.length) ∧ (lf_constraintref52_Config_L3 kk3 (c_a0.f3_Fired.drop i_16) w_17 = some res)) _ ⟨0, r_15, rfl, rfl, rfl, Nat.zero_le _, hr⟩ ?_
      rintro n _ _ ⟨i_16, w_17, rfl, rfl, rfl, hi3, hr⟩ IH3
      rcases listStep c_a0.f3_Fired i_16 hi3 with ⟨ht3, hd3, he3⟩ | ⟨q_23, ht3, hd3, hq3, hlt3⟩
      ·
       rw [hd3, lf_constraintref52_Config_L3] at hr
       refine g_seq ?_
       refine g_seq ?_
       refine g_run (by kernel_rfl) [(0, .d), (1, .d), (2, .d), (3, .d), (4, .d), (5, .d), (6, .d), (7, .d), (8, .d), (9, .r), (10, .d), (11, .d)] rfl ?_
       refine r_d rfl rfl rfl (s_move rfl rfl) ?_
       refine r_d rfl rfl rfl (s_fieldAddr rfl fl_api_Config_3 rfl rfl rfl rfl) ?_
       refine r_d rfl rfl rfl (s_load rfl rfl (by exact ty_L_api_Fire) rfl) ?_
       refine r_d rfl rfl rfl (m_len (f := enc_S_api_Fire) c_a0.f3_Fired rfl el_L_api_Fire rfl (asl rfl)) ?_
       refine r_d rfl rfl rfl (s_cmp rfl rfl rfl rfl) ?_
       refine r_d rfl rfl rfl (s_move rfl rfl) ?_
       refine r_known 118 false rfl ht3 ?_
       refine r_skip rfl rfl rfl ?_
       refine r_skip rfl rfl rfl ?_
       refine r_skip rfl rfl rfl ?_
       refine r_skip rfl rfl rfl ?_
       refine r_skip rfl rfl rfl ?_
       refine r_d rfl rfl rfl (s_pickF rfl rfl rfl) ?_
       refine r_end ?_
       refine g_condF rfl ?_
       refine g_exit rfl ?_
       refine g_sub [(1, .ptr (enc_S_api_Config c_a0)), (3, .ref b9_0 0 [])] (Sub.cons' rfl (Sub.cons' rfl (Sub.nil _))) ?_
       exact HK3 _ _ ⟨w_17, rfl, rfl, hr⟩
      ·
       rw [hd3, lf_constraintref52_Config_L3] at hr
       refine g_seq ?_
       refine g_seq ?_
       refine g_run (by kernel_rfl) [(0, .d), (1, .d), (2, .d), (3, .d), (4, .d), (5, .d), (6, .d), (7, .d), (8, .d), (9, .r), (10, .d), (11, .d)] rfl ?_
       refine r_d rfl rfl rfl (s_move rfl rfl) ?_
       refine r_d rfl rfl rfl (s_fieldAddr rfl fl_api_Config_3 rfl rfl rfl rfl) ?_
       refine r_d rfl rfl rfl (s_load rfl rfl (by exact ty_L_api_Fire) rfl) ?_
       refine r_d rfl rfl rfl (m_len (f := enc_S_api_Fire) c_a0.f3_Fired rfl el_L_api_Fire rfl (asl rfl)) ?_
       refine r_d rfl rfl rfl (s_cmp rfl rfl rfl rfl) ?_
       refine r_d rfl rfl rfl (s_move rfl rfl) ?_
       refine r_known 118 true rfl ht3 ?_
       refine r_d rfl rfl rfl (s_move rfl rfl) ?_
       refine r_d rfl rfl rfl (s_nilCheckR rfl rfl) ?_
       refine r_d rfl rfl rfl (s_fieldRef rfl fl_constraintref52_writer_1 rfl) ?_
       refine r_r rfl rfl rfl (t_loadRef rfl rfl (.head _) rfl rfl (by exact ty_bool) rfl) ?_
       refine r_d rfl rfl rfl (s_not rfl rfl) ?_
       refine r_d rfl rfl rfl (s_pickT rfl rfl rfl) ?_
       refine r_end ?_
       refine g_sB 124 rfl hr (fun h124_23 hr => ?_) (fun h124_23 hr => ?_)
       ·
        refine g_condT rfl ?_
        refine g_skip ?_
        refine g_seq ?_
        refine g_block ?_
        refine g_seq ?_
        refine g_run (by kernel_rfl) [(0, .d), (1, .d), (2, .d), (3, .d), (4, .d), (5, .d), (6, .d), (7, .w)] rfl ?_
        refine r_d rfl rfl rfl (s_move rfl rfl) ?_
        refine r_d rfl rfl rfl (s_fieldAddr rfl fl_api_Config_3 rfl rfl rfl rfl) ?_
        refine r_d rfl rfl rfl (s_load rfl rfl (by exact ty_L_api_Fire) rfl) ?_
        refine r_d rfl rfl rfl (s_move rfl rfl) ?_
        refine r_d rfl rfl rfl (m_index (f := enc_S_api_Fire) c_a0.f3_Fired rfl el_L_api_Fire rfl (asl rfl) rfl hq3 sz_S_api_Fire rfl) ?_
        refine r_d rfl rfl rfl (s_fieldAddr rfl fl_api_Fire_0 rfl rfl rfl rfl) ?_
        refine r_d rfl rfl rfl (s_load rfl rfl (by exact ty_int) rfl) ?_
        obtain ⟨r_25, hr_25, hr⟩ := bindS hr
        refine r_w rfl rfl rfl (s_call _ rfl cl_Pconstraintref52_writer_num (.cons rfl (Wk.refl _) (.cons rfl (Wk.refl _) (.cons rfl (Wk.refl _) (.cons rfl (Wk.refl _) .nil)))) (by exact (pf0 _)) (lg_Pconstraintref52_writer_num_s1 _ _ _ _ _ _ hr_25)) ?_
        rintro _ _ ⟨_, ⟨rfl, rfl⟩, rfl⟩
        refine r_st ((.cell b9_0 (enc_S_constraintref52_writer r_25)) :: _) rfl ?_
        refine r_end ?_
        refine g_run (by kernel_rfl) [(0, .d), (1, .d), (2, .d), (3, .d), (4, .d), (5, .d), (6, .d), (7, .w)] rfl ?_
        refine r_d rfl rfl rfl (s_move rfl rfl) ?_
        refine r_d rfl rfl rfl (s_fieldAddr rfl fl_api_Config_3 rfl rfl rfl rfl) ?_
        refine r_d rfl rfl rfl (s_load rfl rfl (by exact ty_L_api_Fire) rfl) ?_
        refine r_d rfl rfl rfl (s_move rfl rfl) ?_
        refine r_d rfl rfl rfl (m_index (f := enc_S_api_Fire) c_a0.f3_Fired rfl el_L_api_Fire rfl (asl rfl) rfl hq3 sz_S_api_Fire rfl) ?_
        refine r_d rfl rfl rfl (s_fieldAddr rfl fl_api_Fire_1 rfl rfl rfl rfl) ?_
        refine r_d rfl rfl rfl (s_load rfl rfl (by exact ty_L_int) rfl) ?_
        obtain ⟨r_26, hr_26, hr⟩ := bindS hr
        refine r_w rfl rfl rfl (s_call _ rfl cl_Pconstraintref52_writer_nums (.cons rfl (Wk.refl _) (.cons rfl (Wk.refl _) (.cons rfl (Wk.refl _) (.cons rfl (Wk.refl _) .nil)))) (by exact (pf0 _)) (lg_Pconstraintref52_writer_nums_s1 _ _ _ _ _ _ hr_26)) ?_
        rintro _ _ ⟨_, ⟨rfl, rfl⟩, rfl⟩
        refine r_st ((.cell b9_0 (enc_S_constraintref52_writer r_26)) :: _) rfl ?_
        refine r_end ?_
        refine g_inBlock ?_
        refine g_run (by kernel_rfl) [(0, .d), (1, .d), (2, .d)] rfl ?_
        refine r_d rfl rfl rfl (s_move rfl rfl) ?_
        refine r_d rfl rfl rfl (s_ar (r := ((i_16 + 1 : Nat) : Int)) rfl rfl rfl (by simp [iar]) (by omega)) ?_
        refine r_d rfl rfl rfl (s_assign rfl rfl) ?_
        refine r_end ?_
        refine g_sub [(1, .ptr (enc_S_api_Config c_a0)), (3, .ref b9_0 0 []), (7, .int .i64 ((i_16 + 1 : Nat) : Int))] (Sub.cons' rfl (Sub.cons' rfl (Sub.cons' rfl (Sub.nil _)))) ?_
        exact IH3 _ _ _ (by omega) ⟨(i_16 + 1), r_26, rfl, rfl, rfl, (by omega), hr⟩
       ·
        refine g_condF rfl ?_
        refine g_exit rfl ?_
        refine g_sub [(1, .ptr (enc_S_api_Config c_a0)), (3, .ref b9_0 0 [])] (Sub.cons' rfl (Sub.cons' rfl (Sub.nil _))) ?_
        exact HK3 _ _ ⟨w_17, rfl, rfl, hr⟩
    ·
     refine g_sub [(1, .ptr (enc_S_api_Config c_a0)), (3, .ref b9_0 0 []), (6, .int .i64 ((0 : Nat) : Int))] (Sub.cons' rfl (Sub.cons' rfl (Sub.cons' rfl (Sub.nil _)))) ?_
     refine g_loop (fun n env σ => ∃ (i_12 : Nat) (w_13 : S_constraintref52_writer), (n = c_a0.f2_Binds.length - i_12) ∧ (env = [(1, .ptr (enc_S_api_Config c_a0)), (3, .ref b9_0 0 []), (6, .int .i64 (i_12 : Int))]) ∧ (σ = [.cell b9_0 (enc_S_constraintref52_writer w_13)]) ∧ (i_12 ≤ c_a0.f2_Binds.length) ∧ (lf_constraintref52_Config_L2 kk2 fuel (c_a0.f2_Binds.drop i_12) w_13 = some res)) _ ⟨0, r_11, rfl, rfl, rfl, Nat.zero_le _, hr⟩ ?_
     rintro n _ _ ⟨i_12, w_13, rfl, rfl, rfl, hi2, hr⟩ IH2
     rcases listStep c_a0.f2_Binds i_12 hi2 with ⟨ht2, hd2, he2⟩ | ⟨q_27, ht2, hd2, hq2, hlt2⟩
     ·
      rw [hd2, lf_constraintref52_Config_L2] at hr
      refine g_seq ?_
      refine g_seq ?_
      refine g_run (by kernel_rfl) [(0, .d), (1, .d), (2, .d), (3, .d), (4, .d), (5, .d), (6, .d), (7, .d), (8, .d), (9, .r), (10, .d), (11, .d)] rfl ?_
      refine r_d rfl rfl rfl (s_move rfl rfl) ?_
      refine r_d rfl rfl rfl (s_fieldAddr rfl fl_api_Config_2 rfl rfl rfl rfl) ?_
      refine r_d rfl rfl rfl (s_load rfl rfl (by exact ty_api_Binds) rfl) ?_
      refine r_d rfl rfl rfl (m_len (f := encP) c_a0.f2_Binds rfl el_api_Binds rfl (asl rfl)) ?_
      refine r_d rfl rfl rfl (s_cmp rfl rfl rfl rfl) ?_
      refine r_d rfl rfl rfl (s_move rfl rfl) ?_
      refine r_known 83 false rfl ht2 ?_
      refine r_skip rfl rfl rfl ?_
      refine r_skip rfl rfl rfl ?_
      refine r_skip rfl rfl rfl ?_
      refine r_skip rfl rfl rfl ?_
      refine r_skip rfl rfl rfl ?_
      refine r_d rfl rfl rfl (s_pickF rfl rfl rfl) ?_
      refine r_end ?_
      refine g_condF rfl ?_
      refine g_exit rfl ?_
      refine g_sub [(1, .ptr (enc_S_api_Config c_a0)), (3, .ref b9_0 0 [])] (Sub.cons' rfl (Sub.cons' rfl (Sub.nil _))) ?_
      exact HK2 _ _ ⟨w_13, rfl, rfl, hr⟩
     ·
      rw [hd2, lf_constraintref52_Config_L2] at hr
      refine g_seq ?_
      refine g_seq ?_
      refine g_run (by kernel_rfl) [(0, .d), (1, .d), (2, .d), (3, .d), (4, .d), (5, .d), (6, .d), (7, .d), (8, .d), (9, .r), (10, .d), (11, .d)] rfl ?_
      refine r_d rfl rfl rfl (s_move rfl rfl) ?_
      refine r_d rfl rfl rfl (s_fieldAddr rfl fl_api_Config_2 rfl rfl rfl rfl) ?_
      refine r_d rfl rfl rfl (s_load rfl rfl (by exact ty_api_Binds) rfl) ?_
      refine r_d rfl rfl rfl (m_len (f := encP) c_a0.f2_Binds rfl el_api_Binds rfl (asl rfl)) ?_
      refine r_d rfl rfl rfl (s_cmp rfl rfl rfl rfl) ?_
      refine r_d rfl rfl rfl (s_move rfl rfl) ?_
      refine r_known 83 true rfl ht2 ?_
      refine r_d rfl rfl rfl (s_move rfl rfl) ?_
      refine r_d rfl rfl rfl (s_nilCheckR rfl rfl) ?_
      refine r_d rfl rfl rfl (s_fieldRef rfl fl_constraintref52_writer_1 rfl) ?_
      refine r_r rfl rfl rfl (t_loadRef rfl rfl (.head _) rfl rfl (by exact ty_bool) rfl) ?_
      refine r_d rfl rfl rfl (s_not rfl rfl) ?_
      refine r_d rfl rfl rfl (s_pickT rfl rfl rfl) ?_
      refine r_end ?_
      refine g_sB 89 rfl hr (fun h89_27 hr => ?_) (fun h89_27 hr => ?_)
      ·
       refine g_condT rfl ?_
       refine g_skip ?_
       refine g_seq ?_
       refine g_block ?_
       refine g_seq ?_
       refine g_run (by kernel_rfl) [(0, .d), (1, .d), (2, .d), (3, .d), (4, .d), (5, .d), (6, .d), (7, .w)] rfl ?_
       refine r_d rfl rfl rfl (s_move rfl rfl) ?_
       refine r_d rfl rfl rfl (s_fieldAddr rfl fl_api_Config_2 rfl rfl rfl rfl) ?_
       refine r_d rfl rfl rfl (s_load rfl rfl (by exact ty_api_Binds) rfl) ?_
       refine r_d rfl rfl rfl (s_move rfl rfl) ?_
       refine r_d rfl rfl rfl (m_index (f := encP) c_a0.f2_Binds rfl el_api_Binds rfl (asl rfl) rfl hq2 sz_encP rfl) ?_
       refine r_d rfl rfl rfl (s_fieldAddr rfl fl_api_Bind_0 rfl rfl rfl rfl) ?_
       refine r_d rfl rfl rfl (s_load rfl rfl (by exact ty_int) rfl) ?_
       obtain ⟨r_29, hr_29, hr⟩ := bindS hr
       refine r_w rfl rfl rfl (s_call _ rfl cl_Pconstraintref52_writer_num (.cons rfl (Wk.refl _) (.cons rfl (Wk.refl _) (.cons rfl (Wk.refl _) (.cons rfl (Wk.refl _) .nil)))) (by exact (pf0 _)) (lg_Pconstraintref52_writer_num_s1 _ _ _ _ _ _ hr_29)) ?_
       rintro _ _ ⟨_, ⟨rfl, rfl⟩, rfl⟩
       refine r_st ((.cell b9_0 (enc_S_constraintref52_writer r_29)) :: _) rfl ?_
       refine r_end ?_
       refine g_run (by kernel_rfl) [(0, .d), (1, .d), (2, .d), (3, .d), (4, .d), (5, .d), (6, .d), (7, .w)] rfl ?_
       refine r_d rfl rfl rfl (s_move rfl rfl) ?_
       refine r_d rfl rfl rfl (s_fieldAddr rfl fl_api_Config_2 rfl rfl rfl rfl) ?_
       refine r_d rfl rfl rfl (s_load rfl rfl (by exact ty_api_Binds) rfl) ?_
       refine r_d rfl rfl rfl (s_move rfl rfl) ?_
       refine r_d rfl rfl rfl (m_index (f := encP) c_a0.f2_Binds rfl el_api_Binds rfl (asl rfl) rfl hq2 sz_encP rfl) ?_
       refine r_d rfl rfl rfl (s_fieldAddr rfl fl_api_Bind_1 rfl rfl rfl rfl) ?_
       refine r_d rfl rfl rfl (s_load rfl rfl (by exact ty_api_Term) (sz_encT _)) ?_
       obtain ⟨r_30, hr_30, hr⟩ := bindS hr
       refine r_w rfl rfl rfl (s_call _ rfl cl_Pconstraintref52_writer_term (.cons rfl (Wk.refl _) (.cons rfl (Wk.refl _) .nil)) (by exact (pf0 _)) (lg_Pconstraintref52_writer_term_s1 fuel _ _ _ _ hr_30)) ?_
       rintro _ _ ⟨_, ⟨rfl, rfl⟩, rfl⟩
       refine r_st ((.cell b9_0 (enc_S_constraintref52_writer r_30)) :: _) rfl ?_
       refine r_end ?_
       refine g_inBlock ?_
       refine g_run (by kernel_rfl) [(0, .d), (1, .d), (2, .d)] rfl ?_
       refine r_d rfl rfl rfl (s_move rfl rfl) ?_
       refine r_d rfl rfl rfl (s_ar (r := ((i_12 + 1 : Nat) : Int)) rfl rfl rfl (by simp [iar]) (by omega)) ?_
       refine r_d rfl rfl rfl (s_assign rfl rfl) ?_
       refine r_end ?_
       refine g_sub [(1, .ptr (enc_S_api_Config c_a0)), (3, .ref b9_0 0 []), (6, .int .i64 ((i_12 + 1 : Nat) : Int))] (Sub.cons' rfl (Sub.cons' rfl (Sub.cons' rfl (Sub.nil _)))) ?_
       exact IH2 _ _ _ (by omega) ⟨(i_12 + 1), r_30, rfl, rfl, rfl, (by omega), hr⟩
      ·
       refine g_condF rfl ?_
       refine g_exit rfl ?_
       refine g_sub [(1, .ptr (enc_S_api_Config c_a0)), (3, .ref b9_0 0 [])] (Sub.cons' rfl (Sub.cons' rfl (Sub.nil _))) ?_
       exact HK2 _ _ ⟨w_13, rfl, rfl, hr⟩
   ·
    refine g_sub [(1, .ptr (enc_S_api_Config c_a0)), (3, .ref b9_0 0 []), (5, .int .i64 ((0 : Nat) : Int))] (Sub.cons' rfl (Sub.cons' rfl (Sub.cons' rfl (Sub.nil _)))) ?_
    refine g_loop (fun n env σ => ∃ (i_8 : Nat) (w_9 : S_constraintref52_writer), (n = c_a0.f1_Store.length - i_8) ∧ (env = [(1, .ptr (enc_S_api_Config c_a0)), (3, .ref b9_0 0 []), (5, .int .i64 (i_8 : Int))]) ∧ (σ = [.cell b9_0 (enc_S_constraintref52_writer w_9)]) ∧ (i_8 ≤ c_a0.f1_Store.length) ∧ (lf_constraintref52_Config_L1 kk1 fuel (c_a0.f1_Store.drop i_8) w_9 = some res)) _ ⟨0, r_7, rfl, rfl, rfl, Nat.zero_le _, hr⟩ ?_
    rintro n _ _ ⟨i_8, w_9, rfl, rfl, rfl, hi1, hr⟩ IH1
    rcases listStep c_a0.f1_Store i_8 hi1 with ⟨ht1, hd1, he1⟩ | ⟨q_31, ht1, hd1, hq1, hlt1⟩
    ·
     rw [hd1, lf_constraintref52_Config_L1] at hr
     refine g_seq ?_
     refine g_seq ?_
     refine g_run (by kernel_rfl) [(0, .d), (1, .d), (2, .d), (3, .d), (4, .d), (5, .d), (6, .d), (7, .d), (8, .d), (9, .r), (10, .d), (11, .d)] rfl ?_
     refine r_d rfl rfl rfl (s_move rfl rfl) ?_
     refine r_d rfl rfl rfl (s_fieldAddr rfl fl_api_Config_1 rfl rfl rfl rfl) ?_
     refine r_d rfl rfl rfl (s_load rfl rfl (by exact ty_L_api_Item) rfl) ?_
     refine r_d rfl rfl rfl (m_len (f := encIt) c_a0.f1_Store rfl el_L_api_Item rfl (asl rfl)) ?_
     refine r_d rfl rfl rfl (s_cmp rfl rfl rfl rfl) ?_
     refine r_d rfl rfl rfl (s_move rfl rfl) ?_
     refine r_known 48 false rfl ht1 ?_
     refine r_skip rfl rfl rfl ?_
     refine r_skip rfl rfl rfl ?_
     refine r_skip rfl rfl rfl ?_
     refine r_skip rfl rfl rfl ?_
     refine r_skip rfl rfl rfl ?_
     refine r_d rfl rfl rfl (s_pickF rfl rfl rfl) ?_
     refine r_end ?_
     refine g_condF rfl ?_
     refine g_exit rfl ?_
     refine g_sub [(1, .ptr (enc_S_api_Config c_a0)), (3, .ref b9_0 0 [])] (Sub.cons' rfl (Sub.cons' rfl (Sub.nil _))) ?_
     exact HK1 _ _ ⟨w_9, rfl, rfl, hr⟩
    ·
     rw [hd1, lf_constraintref52_Config_L1] at hr
     refine g_seq ?_
     refine g_seq ?_
     refine g_run (by kernel_rfl) [(0, .d), (1, .d), (2, .d), (3, .d), (4, .d), (5, .d), (6, .d), (7, .d), (8, .d), (9, .r), (10, .d), (11, .d)] rfl ?_
     refine r_d rfl rfl rfl (s_move rfl rfl) ?_
     refine r_d rfl rfl rfl (s_fieldAddr rfl fl_api_Config_1 rfl rfl rfl rfl) ?_
     refine r_d rfl rfl rfl (s_load rfl rfl (by exact ty_L_api_Item) rfl) ?_
     refine r_d rfl rfl rfl (m_len (f := encIt) c_a0.f1_Store rfl el_L_api_Item rfl (asl rfl)) ?_
     refine r_d rfl rfl rfl (s_cmp rfl rfl rfl rfl) ?_
     refine r_d rfl rfl rfl (s_move rfl rfl) ?_
     refine r_known 48 true rfl ht1 ?_
     refine r_d rfl rfl rfl (s_move rfl rfl) ?_
     refine r_d rfl rfl rfl (s_nilCheckR rfl rfl) ?_
     refine r_d rfl rfl rfl (s_fieldRef rfl fl_constraintref52_writer_1 rfl) ?_
     refine r_r rfl rfl rfl (t_loadRef rfl rfl (.head _) rfl rfl (by exact ty_bool) rfl) ?_
     refine r_d rfl rfl rfl (s_not rfl rfl) ?_
     refine r_d rfl rfl rfl (s_pickT rfl rfl rfl) ?_
     refine r_end ?_
     refine g_sB 54 rfl hr (fun h54_31 hr => ?_) (fun h54_31 hr => ?_)
     ·
      refine g_condT rfl ?_
      refine g_skip ?_
      refine g_seq ?_
      refine g_block ?_
      refine g_seq ?_
      refine g_run (by kernel_rfl) [(0, .d), (1, .d), (2, .d), (3, .d), (4, .d), (5, .d), (6, .d), (7, .w)] rfl ?_
      refine r_d rfl rfl rfl (s_move rfl rfl) ?_
      refine r_d rfl rfl rfl (s_fieldAddr rfl fl_api_Config_1 rfl rfl rfl rfl) ?_
      refine r_d rfl rfl rfl (s_load rfl rfl (by exact ty_L_api_Item) rfl) ?_
      refine r_d rfl rfl rfl (s_move rfl rfl) ?_
      refine r_d rfl rfl rfl (m_index (f := encIt) c_a0.f1_Store rfl el_L_api_Item rfl (asl rfl) rfl hq1 sz_encIt rfl) ?_
      refine r_d rfl rfl rfl (s_fieldAddr rfl fl_api_Item_0 rfl rfl rfl rfl) ?_
      refine r_d rfl rfl rfl (s_load rfl rfl (by exact ty_int) rfl) ?_
      obtain ⟨r_33, hr_33, hr⟩ := bindS hr
      refine r_w rfl rfl rfl (s_call _ rfl cl_Pconstraintref52_writer_num (.cons rfl (Wk.refl _) (.cons rfl (Wk.refl _) (.cons rfl (Wk.refl _) (.cons rfl (Wk.refl _) .nil)))) (by exact (pf0 _)) (lg_Pconstraintref52_writer_num_s1 _ _ _ _ _ _ hr_33)) ?_
      rintro _ _ ⟨_, ⟨rfl, rfl⟩, rfl⟩
      refine r_st ((.cell b9_0 (enc_S_constraintref52_writer r_33)) :: _) rfl ?_
      refine r_end ?_
      refine g_run (by kernel_rfl) [(0, .d), (1, .d), (2, .d), (3, .d), (4, .d), (5, .d), (6, .d), (7, .w)] rfl ?_
      refine r_d rfl rfl rfl (s_move rfl rfl) ?_
      refine r_d rfl rfl rfl (s_fieldAddr rfl fl_api_Config_1 rfl rfl rfl rfl) ?_
      refine r_d rfl rfl rfl (s_load rfl rfl (by exact ty_L_api_Item) rfl) ?_
      refine r_d rfl rfl rfl (s_move rfl rfl) ?_
      refine r_d rfl rfl rfl (m_index (f := encIt) c_a0.f1_Store rfl el_L_api_Item rfl (asl rfl) rfl hq1 sz_encIt rfl) ?_
      refine r_d rfl rfl rfl (s_fieldAddr rfl fl_api_Item_1 rfl rfl rfl rfl) ?_
      refine r_d rfl rfl rfl (s_load rfl rfl (by exact ty_api_Atom) (sz_encA _)) ?_
      obtain ⟨r_34, hr_34, hr⟩ := bindS hr
      refine r_w rfl rfl rfl (s_call _ rfl cl_Pconstraintref52_writer_atom (.cons rfl (Wk.refl _) (.cons rfl (Wk.refl _) .nil)) (by exact (pf0 _)) (lg_Pconstraintref52_writer_atom_s1 fuel _ _ _ _ hr_34)) ?_
      rintro _ _ ⟨_, ⟨rfl, rfl⟩, rfl⟩
      refine r_st ((.cell b9_0 (enc_S_constraintref52_writer r_34)) :: _) rfl ?_
      refine r_end ?_
      refine g_inBlock ?_
      refine g_run (by kernel_rfl) [(0, .d), (1, .d), (2, .d)] rfl ?_
      refine r_d rfl rfl rfl (s_move rfl rfl) ?_
      refine r_d rfl rfl rfl (s_ar (r := ((i_8 + 1 : Nat) : Int)) rfl rfl rfl (by simp [iar]) (by omega)) ?_
      refine r_d rfl rfl rfl (s_assign rfl rfl) ?_
      refine r_end ?_
      refine g_sub [(1, .ptr (enc_S_api_Config c_a0)), (3, .ref b9_0 0 []), (5, .int .i64 ((i_8 + 1 : Nat) : Int))] (Sub.cons' rfl (Sub.cons' rfl (Sub.cons' rfl (Sub.nil _)))) ?_
      exact IH1 _ _ _ (by omega) ⟨(i_8 + 1), r_34, rfl, rfl, rfl, (by omega), hr⟩
     ·
      refine g_condF rfl ?_
      refine g_exit rfl ?_
      refine g_sub [(1, .ptr (enc_S_api_Config c_a0)), (3, .ref b9_0 0 [])] (Sub.cons' rfl (Sub.cons' rfl (Sub.nil _))) ?_
      exact HK1 _ _ ⟨w_9, rfl, rfl, hr⟩
  ·
   refine g_sub [(1, .ptr (enc_S_api_Config c_a0)), (3, .ref b9_0 0 []), (4, .int .i64 ((0 : Nat) : Int))] (Sub.cons' rfl (Sub.cons' rfl (Sub.cons' rfl (Sub.nil _)))) ?_
   refine g_loop (fun n env σ => ∃ (i_4 : Nat) (t9_5 : S_constraintref52_writer), (n = c_a0.f0_Stack.length - i_4) ∧ (env = [(1, .ptr (enc_S_api_Config c_a0)), (3, .ref b9_0 0 []), (4, .int .i64 (i_4 : Int))]) ∧ (σ = [.cell b9_0 (enc_S_constraintref52_writer t9_5)]) ∧ (i_4 ≤ c_a0.f0_Stack.length) ∧ (lf_constraintref52_Config_L0 kk0 fuel (c_a0.f0_Stack.drop i_4) t9_5 = some res)) _ ⟨0, r_3, rfl, rfl, rfl, Nat.zero_le _, hr⟩ ?_
   rintro n _ _ ⟨i_4, t9_5, rfl, rfl, rfl, hi0, hr⟩ IH0
   rcases listStep c_a0.f0_Stack i_4 hi0 with ⟨ht0, hd0, he0⟩ | ⟨q_35, ht0, hd0, hq0, hlt0⟩
   ·
    rw [hd0, lf_constraintref52_Config_L0] at hr
    refine g_seq ?_
    refine g_seq ?_
    refine g_run (by kernel_rfl) [(0, .d), (1, .d), (2, .d), (3, .d), (4, .d), (5, .d), (6, .d), (7, .d), (8, .d), (9, .r), (10, .d), (11, .d)] rfl ?_
    refine r_d rfl rfl rfl (s_move rfl rfl) ?_
    refine r_d rfl rfl rfl (s_fieldAddr rfl fl_api_Config_0 rfl rfl rfl rfl) ?_
    refine r_d rfl rfl rfl (s_load rfl rfl (by exact ty_L_api_Frame) rfl) ?_
    refine r_d rfl rfl rfl (m_len (f := enc_S_api_Frame) c_a0.f0_Stack rfl el_L_api_Frame rfl (asl rfl)) ?_
    refine r_d rfl rfl rfl (s_cmp rfl rfl rfl rfl) ?_
    refine r_d rfl rfl rfl (s_move rfl rfl) ?_
    refine r_known 22 false rfl ht0 ?_
    refine r_skip rfl rfl rfl ?_
    refine r_skip rfl rfl rfl ?_
    refine r_skip rfl rfl rfl ?_
    refine r_skip rfl rfl rfl ?_
    refine r_skip rfl rfl rfl ?_
    refine r_d rfl rfl rfl (s_pickF rfl rfl rfl) ?_
    refine r_end ?_
    refine g_condF rfl ?_
    refine g_exit rfl ?_
    refine g_sub [(1, .ptr (enc_S_api_Config c_a0)), (3, .ref b9_0 0 [])] (Sub.cons' rfl (Sub.cons' rfl (Sub.nil _))) ?_
    exact HK0 _ _ ⟨t9_5, rfl, rfl, hr⟩
   ·
    rw [hd0, lf_constraintref52_Config_L0] at hr
    refine g_seq ?_
    refine g_seq ?_
    refine g_run (by kernel_rfl) [(0, .d), (1, .d), (2, .d), (3, .d), (4, .d), (5, .d), (6, .d), (7, .d), (8, .d), (9, .r), (10, .d), (11, .d)] rfl ?_
    refine r_d rfl rfl rfl (s_move rfl rfl) ?_
    refine r_d rfl rfl rfl (s_fieldAddr rfl fl_api_Config_0 rfl rfl rfl rfl) ?_
    refine r_d rfl rfl rfl (s_load rfl rfl (by exact ty_L_api_Frame) rfl) ?_
    refine r_d rfl rfl rfl (m_len (f := enc_S_api_Frame) c_a0.f0_Stack rfl el_L_api_Frame rfl (asl rfl)) ?_
    refine r_d rfl rfl rfl (s_cmp rfl rfl rfl rfl) ?_
    refine r_d rfl rfl rfl (s_move rfl rfl) ?_
    refine r_known 22 true rfl ht0 ?_
    refine r_d rfl rfl rfl (s_move rfl rfl) ?_
    refine r_d rfl rfl rfl (s_nilCheckR rfl rfl) ?_
    refine r_d rfl rfl rfl (s_fieldRef rfl fl_constraintref52_writer_1 rfl) ?_
    refine r_r rfl rfl rfl (t_loadRef rfl rfl (.head _) rfl rfl (by exact ty_bool) rfl) ?_
    refine r_d rfl rfl rfl (s_not rfl rfl) ?_
    refine r_d rfl rfl rfl (s_pickT rfl rfl rfl) ?_
    refine r_end ?_
    refine g_sB 28 rfl hr (fun h28_35 hr => ?_) (fun h28_35 hr => ?_)
    ·
     refine g_condT rfl ?_
     refine g_skip ?_
     refine g_seq ?_
     refine g_block ?_
     refine g_run (by kernel_rfl) [(0, .d), (1, .d), (2, .d), (3, .d), (4, .d), (5, .d), (6, .w)] rfl ?_
     refine r_d rfl rfl rfl (s_move rfl rfl) ?_
     refine r_d rfl rfl rfl (s_fieldAddr rfl fl_api_Config_0 rfl rfl rfl rfl) ?_
     refine r_d rfl rfl rfl (s_load rfl rfl (by exact ty_L_api_Frame) rfl) ?_
     refine r_d rfl rfl rfl (s_move rfl rfl) ?_
     refine r_d rfl rfl rfl (m_index (f := enc_S_api_Frame) c_a0.f0_Stack rfl el_L_api_Frame rfl (asl rfl) rfl hq0 sz_S_api_Frame rfl) ?_
     refine r_d rfl rfl rfl (s_load rfl rfl (by exact ty_api_Frame) (sz_S_api_Frame _)) ?_
     obtain ⟨r_37, hr_37, hr⟩ := bindS hr
     refine r_w rfl rfl rfl (s_call _ rfl cl_Pconstraintref52_writer_frame (.cons rfl (Wk.refl _) (.cons rfl (Wk.refl _) .nil)) (by exact (pf0 _)) (lg_Pconstraintref52_writer_frame_s1 fuel _ _ _ _ hr_37)) ?_
     rintro _ _ ⟨_, ⟨rfl, rfl⟩, rfl⟩
     refine r_st ((.cell b9_0 (enc_S_constraintref52_writer r_37)) :: _) rfl ?_
     refine r_end ?_
     refine g_inBlock ?_
     refine g_run (by kernel_rfl) [(0, .d), (1, .d), (2, .d)] rfl ?_
     refine r_d rfl rfl rfl (s_move rfl rfl) ?_
     refine r_d rfl rfl rfl (s_ar (r := ((i_4 + 1 : Nat) : Int)) rfl rfl rfl (by simp [iar]) (by omega)) ?_
     refine r_d rfl rfl rfl (s_assign rfl rfl) ?_
     refine r_end ?_
     refine g_sub [(1, .ptr (enc_S_api_Config c_a0)), (3, .ref b9_0 0 []), (4, .int .i64 ((i_4 + 1 : Nat) : Int))] (Sub.cons' rfl (Sub.cons' rfl (Sub.cons' rfl (Sub.nil _)))) ?_
     exact IH0 _ _ _ (by omega) ⟨(i_4 + 1), r_37, rfl, rfl, rfl, (by omega), hr⟩
    ·
     refine g_condF rfl ?_
     refine g_exit rfl ?_
     refine g_sub [(1, .ptr (enc_S_api_Config c_a0)), (3, .ref b9_0 0 [])] (Sub.cons' rfl (Sub.cons' rfl (Sub.nil _))) ?_
     exact HK0 _ _ ⟨t9_5, rfl, rfl, hr⟩

end Go.Proofs.YtdoljfkjdfaakaaGreat


namespace Go.Proofs.YtdoljfkjdfaakaaGreat
set_option maxRecDepth 100000
open Go.RowKit

/-! ### writers -/
section
variable {W α β : Type} {mk : List Int → Bool → W} {f g : W → Option W} {N M : Nat} {r s : Option (List Int)}
/-- .. as long as the value is sound. -/
def runR (bad : W → Bool) (put : α → W → Option W) : List α → W → Option W
  | [], c => some c
  | x :: l, c => bif !bad c then (put x c).bind (runR bad put l) else some c
theorem wr_runR {bad : W → Bool} (hbad : ∀ b x, bad (mk b x) = x) {put : α → W → Option W} {e : α → Option (List Int)} {n : Nat} : ∀ (l : List α), (∀ x ∈ l, Wr mk (put x) n (e x)) → Wr mk (runR bad put l) (l.length * n) (eCat e l)
  | [], _ => (Wr.pure : Wr mk some 0 (some [])).le (Nat.zero_le _)
  | x :: l, h => fun b bd hb => by
    cases bd with
    | false =>
      have := ((h x (by simp)).bind (wr_runR hbad l fun y hy => h y (by simp [hy]))).le (M := (x :: l).length * n) (by simp only [List.length_cons, Nat.add_mul]; omega) b false hb
      unfold eCat
      simpa only [runR, hbad, Bool.not_false, cond_true] using this
    | true => exact ⟨b, true, by simp [runR, hbad], by omega, id, fun h => by cases h⟩
end
end Go.Proofs.YtdoljfkjdfaakaaGreat


namespace Go.Proofs.YtdoljfkjdfaakaaGreat
set_option maxRecDepth 100000
open Go.RowKit


/-! ### The reference -/
theorem wrR_num (n lo hi : Int) : Wr S_constraintref52_writer.mk (lf_Pconstraintref52_writer_num_s1 n lo hi) 10 (eNum lo hi n) := fun b bad hb => by
  have hl := encN_len n
  have hc : x_cPutInt b n = some (b ++ encN n) := if_pos (by omega)
  have hl2 : (b ++ encN n).length ≤ b.length + 10 := by
    rw [List.length_append]
    omega
  unfold lf_Pconstraintref52_writer_num_s1
  simp only [hc, Option.bind_some]
  cases bad with
  | true => exact ⟨b ++ encN n, true, by simp only [cond_true], hl2, id, fun h => by cases h⟩
  | false =>
    simp only [cond_false]
    by_cases h1 : n < lo
    · exact ⟨b ++ encN n, true, by rw [decide_eq_true h1, cond_true], hl2, fun _ => rfl, fun _ => okW_num (by simp; omega)⟩
    · exact ⟨b ++ encN n, decide (n > hi), by rw [decide_eq_false h1, cond_false], hl2, fun h => (by cases h), fun _ => okW_num (by simp; omega)⟩
theorem wrR_text (s : ByteArray) : Wr S_constraintref52_writer.mk (lf_Pconstraintref52_writer_text_s1 s) 50 (eText s) := fun b bad hb => by
  have hl := text_len s
  unfold lf_Pconstraintref52_writer_text_s1
  by_cases h : (s.size : Int) > 40
  · exact ⟨b, true, by rw [decide_eq_true h, cond_true], by omega, fun _ => rfl, fun _ => okW_text (by simp; omega) fun h => by omega⟩
  · have hc : x_cPutText b s = some (b ++ (encN s.size ++ toY s.data.toList)) := if_pos ⟨by omega, by omega⟩
    refine ⟨_, bad, by rw [decide_eq_false h, cond_false, hc]; rfl, by rw [List.length_append]; omega, id, fun h => okW_text (by rw [h]; simp; omega) fun _ => rfl⟩
theorem wrR_flag (x : Bool) : Wr S_constraintref52_writer.mk (lf_Pconstraintref52_writer_flag_s1 x) 1 (eBool x) := fun b bad hb => by
  have hc : x_cPutBool b x = some (b ++ [bif x then 1 else 0]) := if_pos (by omega)
  unfold lf_Pconstraintref52_writer_flag_s1
  simp only [hc, Option.bind_some]
  exact ⟨_, bad, rfl, by simp, id, fun h => ⟨h, rfl⟩⟩
section
variable {W α : Type} {mk : List Int → Bool → W} {bad : W → Bool} {put : α → W → Option W}
theorem runR_bad (l : List α) (c : W) : runR bad put l c = bif bad c then some c else runR bad put l c := by
  cases h : bad c with
  | false => rfl
  | true =>
    cases l with
    | nil => rfl
    | cons x l => simp [runR, h]
theorem wr_listR (hbad : ∀ b x, bad (mk b x) = x) {num : W → Option W} {most : Int} {e : α → Option (List Int)} {l : List α} {n m : Nat} (hm : (l.length : Int) ≤ most → l.length ≤ m) (hn : Wr mk num 10 (eNum 0 most (l.length : Int))) (hp : ∀ x ∈ l, Wr mk (put x) n (e x)) : Wr mk (fun c => (num c).bind (runR bad put l)) (10 + m * n) (eList most e l) := by
  refine (wr_list hbad hm hn (wr_runR hbad l hp)).congr fun c => ?_
  cases num c with
  | none => rfl
  | some r => exact (runR_bad l r).symm
end
mutual
theorem wt_form : ∀ t : T, formT t = true → wt t = sizeT t
  | .mk k i s ar, h => by
    simp only [formT] at h
    simp only [wt, sizeT]
    split at h
    · rename_i h0
      simp only [decide_eq_true_eq] at h
      have : ar = [] := List.eq_nil_of_length_eq_zero h.2.2.2
      subst this h0
      rfl
    · split at h
      · rename_i h1
        simp only [decide_eq_true_eq] at h
        have : ar = [] := List.eq_nil_of_length_eq_zero h.2.2.2
        subst this h1
        rfl
      · split at h
        · rename_i h2
          rw [Bool.and_eq_true] at h
          rw [if_pos h2, wtL_form ar h.2]
        · cases h
theorem wtL_form : ∀ l : List T, formL l = true → wtL l = sizeL l
  | [], _ => rfl
  | t :: l, h => by
    simp only [formL, Bool.and_eq_true] at h
    simp only [wtL, sizeL, wt_form t h.1, wtL_form l h.2]
end
theorem wrR_term1 {rec : List T → S_constraintref52_writer → Option S_constraintref52_writer} (t : T) (hw : rightT t = true) (hr : t.k = 2 → Wr S_constraintref52_writer.mk (rec t.ar) (10 + 70 * sizeL t.ar) (some (encN t.ar.length ++ bL t.ar))) : Wr S_constraintref52_writer.mk (lfo_Pconstraintref52_writer_term_s1 rec t) (70 * sizeT t) (some (bT t)) := by
  obtain ⟨hf, hs, hd⟩ := rightT_in hw
  have hp := size_pos t
  have hx : x_rightT t = some true := by rw [x_rightT_eq _ (by rw [wt_form t hf]; omega), hw]
  rcases form_k hf with k | k | k
  · rw [formT_0 k, decide_eq_true_eq] at hf
    refine (((wrR_num t.k 0 2).bind (wrR_num t.i (-2147483648) 2147483648).last).le (M := 70 * sizeT t) (by omega)).eq (s := some (bT t)) ?_ |>.congr fun c => ?_
    · rw [eNum_in (by omega) (by omega), eNum_in (by omega) (by omega), bT_n (by omega)]
      rfl
    · unfold lfo_Pconstraintref52_writer_term_s1
      simp [k, hx]
  · rw [formT_1 k, decide_eq_true_eq] at hf
    refine (((wrR_num t.k 0 2).bind (wrR_num t.i (-2147483648) 2147483648).last).le (M := 70 * sizeT t) (by omega)).eq (s := some (bT t)) ?_ |>.congr fun c => ?_
    · rw [eNum_in (by omega) (by omega), eNum_in (by omega) (by omega), bT_n (by omega)]
      rfl
    · unfold lfo_Pconstraintref52_writer_term_s1
      simp [k, hx]
  · obtain ⟨f1, f2, f3, f4⟩ := form_2 hf k
    have hz := (depth_2 k).2
    refine (((wrR_num t.k 0 2).bind ((wrR_text t.s).bind (hr k).last)).le (M := 70 * sizeT t) (by omega)).eq (s := some (bT t)) ?_ |>.congr fun c => ?_
    · rw [eNum_in (by omega) (by omega), eText_in f2, bT_2 k]
      rfl
    · unfold lfo_Pconstraintref52_writer_term_s1
      simp [k, hx]
theorem loopR_Pconstraintref52_writer_terms_s1_L0 (k : S_constraintref52_writer → Option S_constraintref52_writer) (rec : List T → S_constraintref52_writer → Option S_constraintref52_writer) : ∀ l c, lf_Pconstraintref52_writer_terms_s1_L0 k rec l c = (runR S_constraintref52_writer.f1_bad (lfo_Pconstraintref52_writer_term_s1 rec) l c).bind k
  | [], c => rfl
  | x :: l, c => by
    have ih := loopR_Pconstraintref52_writer_terms_s1_L0 k rec l
    rw [lf_Pconstraintref52_writer_terms_s1_L0, runR]
    cases hb : (!c.f1_bad) with
    | false => rfl
    | true => simp only [cond_true, Option.bind_assoc, ih]
theorem runsR_T {rec : List T → S_constraintref52_writer → Option S_constraintref52_writer} : ∀ (l : List T), (∀ t ∈ l, Wr S_constraintref52_writer.mk (lfo_Pconstraintref52_writer_term_s1 rec t) (70 * sizeT t) (some (bT t))) → Wr S_constraintref52_writer.mk (runR S_constraintref52_writer.f1_bad (lfo_Pconstraintref52_writer_term_s1 rec) l) (70 * sizeL l) (some (bL l))
  | [], _ => Wr.pure
  | x :: l, h => fun b bd hb => by
    cases bd with
    | false =>
      have := (((h x (by simp)).bind (runsR_T l fun y hy => h y (by simp [hy]))).eq (catO_in _ _)).le (M := 70 * sizeL (x :: l)) (by simp only [sizeL]; omega) b false hb
      obtain ⟨b', bad', e1, l1, m1, o1⟩ := this
      refine ⟨b', bad', ?_, l1, m1, fun _ => o1 rfl⟩
      simp only [runR, Bool.not_false, cond_true]
      exact e1
    | true => exact ⟨b, true, by simp [runR], by omega, id, fun h => by cases h⟩
theorem sizeL_mem {t : T} : ∀ {l : List T}, t ∈ l → sizeT t ≤ sizeL l
  | x :: l, h => by
    simp only [sizeL]
    rcases List.mem_cons.1 h with rfl | h
    · omega
    · have := sizeL_mem h
      omega
theorem rightT_of {t : T} (h1 : formT t = true) (h2 : sizeT t ≤ 200) (h3 : depthT t ≤ 20) : rightT t = true := by
  unfold rightT
  simp [h1, h2, h3]
theorem wrR_args : ∀ (fuel : Nat) (l : List T), formL l = true → l.length ≤ 6 → sizeL l ≤ 200 → depthL l ≤ 20 → depthL l < fuel → Wr S_constraintref52_writer.mk (lf_Pconstraintref52_writer_terms_s1 fuel l) (10 + 70 * sizeL l) (some (encN l.length ++ bL l))
  | 0, l, _, _, _, _, h => by omega
  | fuel + 1, l, hf, hl, hs, hd20, hd => by
    have hrun := runsR_T (rec := lf_Pconstraintref52_writer_terms_s1 fuel) l fun t ht => by
      have hft := formL_mem hf ht
      have h1 := depthL_mem ht
      have h2 := sizeL_mem ht
      refine wrR_term1 t (rightT_of hft (by omega) (by omega)) fun k => ?_
      have h3 := (depth_2 k).1
      have h4 := (depth_2 k).2
      exact wrR_args fuel t.ar (form_2 hft k).2.2.2 (form_2 hft k).2.2.1 (by omega) (by omega) (by omega)
    have := ((wrR_num (l.length : Int) 0 6).bind hrun).eq (s := some (encN l.length ++ bL l)) (by rw [eNum_in (by omega) (by omega)]; rfl)
    refine this.congr fun c => ?_
    rw [lf_Pconstraintref52_writer_terms_s1]
    simp only [loopR_Pconstraintref52_writer_terms_s1_L0, bind_some']
theorem wrR_term {fuel : Nat} (hfu : 21 ≤ fuel) (t : T) (ha : wt t ≤ 1000000000) : Wr S_constraintref52_writer.mk (lf_Pconstraintref52_writer_term_s1 fuel t) 14000 (eT t) := by
  unfold eT lf_Pconstraintref52_writer_term_s1
  by_cases hr : rightT t = true
  · rw [if_pos hr]
    obtain ⟨r1, r2, r3⟩ := rightT_in hr
    exact (wrR_term1 (rec := lf_Pconstraintref52_writer_terms_s1 fuel) t hr fun k => by
      have h3 := (depth_2 k).1
      have h4 := (depth_2 k).2
      exact wrR_args fuel t.ar (form_2 r1 k).2.2.2 (form_2 r1 k).2.2.1 (by omega) (by omega) (by omega)).le (by omega)
  · rw [if_neg hr]
    intro b bad hb
    unfold lfo_Pconstraintref52_writer_term_s1
    simp only [x_rightT_eq _ ha, Bool.not_eq_true _ |>.mp hr, Option.bind_some]
    exact ⟨b, true, rfl, by omega, fun _ => rfl, fun _ => rfl⟩
theorem wrR_atom {fuel : Nat} (hfu : 21 ≤ fuel) (a : At) (ha : wtL a.ts ≤ 1000000000) : Wr S_constraintref52_writer.mk (lf_Pconstraintref52_writer_atom_s1 fuel a) 14060 (eAtom a) := by
  unfold eAtom
  by_cases hr : rightA a = true
  · rw [if_pos hr]
    obtain ⟨r1, r2, r3⟩ := rightA_in hr
    obtain ⟨h1, h2, h3⟩ := rightL_in r3
    refine ((((wrR_text a.n).bind (wrR_args fuel a.ts h1 r2 h2 h3 (by omega)).last).le (M := 14060) (by omega)).eq (s := some (bArgs a.n a.ts)) (by rw [eText_in r1]; rfl)).congr fun c => ?_
    unfold lf_Pconstraintref52_writer_atom_s1
    simp only [x_rightA_eq _ ha, hr, Option.bind_some]
    rfl
  · rw [if_neg hr]
    intro b bad hb
    unfold lf_Pconstraintref52_writer_atom_s1
    simp only [x_rightA_eq _ ha, Bool.not_eq_true _ |>.mp hr, Option.bind_some]
    exact ⟨b, true, rfl, by omega, fun _ => rfl, fun _ => rfl⟩
theorem wrR_goal {fuel : Nat} (hfu : 21 ≤ fuel) (g : Gl) (ha : wtL g.ts ≤ 1000000000) : Wr S_constraintref52_writer.mk (lf_Pconstraintref52_writer_goal_s1 fuel g) 14070 (eGoal g) := by
  unfold eGoal
  by_cases hr : rightG g = true
  · rw [if_pos hr]
    obtain ⟨r0, r0', r1, r2, r3⟩ := rightG_in hr
    obtain ⟨h1, h2, h3⟩ := rightL_in r3
    refine ((((wrR_num g.op 0 12).bind ((wrR_text g.n).bind (wrR_args fuel g.ts h1 r2 h2 h3 (by omega)).last)).le (M := 14070) (by omega)).eq (s := some (encN g.op ++ bArgs g.n g.ts)) (by rw [eNum_in r0 r0', eText_in r1]; rfl)).congr fun c => ?_
    unfold lf_Pconstraintref52_writer_goal_s1
    simp only [x_rightG_eq _ ha, hr, Option.bind_some]
    rfl
  · rw [if_neg hr]
    intro b bad hb
    unfold lf_Pconstraintref52_writer_goal_s1
    simp only [x_rightG_eq _ ha, Bool.not_eq_true _ |>.mp hr, Option.bind_some]
    exact ⟨b, true, rfl, by omega, fun _ => rfl, fun _ => rfl⟩
theorem wrR_frame {fuel : Nat} (hfu : 21 ≤ fuel) (f : S_api_Frame) (ha : wtL f.f0_Goal.ts ≤ 1000000000) : Wr S_constraintref52_writer.mk (lf_Pconstraintref52_writer_frame_s1 fuel f) 14090 (eFrame f) := by
  unfold lf_Pconstraintref52_writer_frame_s1
  refine ((wrR_num f.f1_ID 0 2147483648).bind ((wrR_num f.f2_Occ (-1) 2147483648).bind (M := 14070) ?_)).le (by omega)
  intro b bad hb
  by_cases h0 : f.f1_ID = 0
  · simp only [h0, bind_some', beq_self_eq_true, cond_true, if_true]
    exact wrR_goal hfu f.f0_Goal ha b bad hb
  · have h0' : (f.f1_ID == 0) = false := by simpa using h0
    simp only [h0', cond_false, if_neg h0]
    cases bad with
    | true => exact ⟨b, true, rfl, by omega, id, fun h => by cases h⟩
    | false =>
      simp only [cond_false]
      by_cases h1 : f.f0_Goal.op = 0
      · by_cases h2 : f.f0_Goal.n.toList = []
        · have e1 : (f.f0_Goal.op != 0) = false := by simp [h1]
          have e2 : (!(f.f0_Goal.n.toList == (⟨#[]⟩ : ByteArray).toList)) = false := by rw [h2, nilB]; rfl
          rw [e1, e2, cond_false, cond_false]
          refine ⟨b, _, rfl, by omega, fun h => (by cases h), fun _ => ?_⟩
          cases hts : f.f0_Goal.ts with
          | nil =>
            rw [if_pos ⟨h1, h2, rfl⟩]
            exact ⟨by simp, by simp⟩
          | cons x l =>
            rw [if_neg (by simp)]
            show _ = true
            simp
        · have e1 : (f.f0_Goal.op != 0) = false := by simp [h1]
          have e2 : (!(f.f0_Goal.n.toList == (⟨#[]⟩ : ByteArray).toList)) = true := by
            rw [Bool.not_eq_true', beq_eq_false_iff_ne, nilB]
            exact h2
          rw [e1, e2, cond_false, cond_true]
          exact ⟨b, true, rfl, by omega, fun _ => rfl, fun _ => by rw [if_neg (fun h => h2 h.2.1)]; rfl⟩
      · have e1 : (f.f0_Goal.op != 0) = true := by simpa using h1
        rw [e1, cond_true]
        exact ⟨b, true, rfl, by omega, fun _ => rfl, fun _ => by rw [if_neg (fun h => h1 h.1)]; rfl⟩
theorem loopR_Pconstraintref52_writer_nums_s1_L0 (k : S_constraintref52_writer → Option S_constraintref52_writer) (h : Int) : ∀ l c, lf_Pconstraintref52_writer_nums_s1_L0 k h l c = (runR S_constraintref52_writer.f1_bad (fun x => lf_Pconstraintref52_writer_num_s1 x 0 h) l c).bind k
  | [], c => rfl
  | x :: l, c => by
    have ih := loopR_Pconstraintref52_writer_nums_s1_L0 k h l
    rw [lf_Pconstraintref52_writer_nums_s1_L0, runR]
    cases hb : (!c.f1_bad) with
    | false => rfl
    | true => simp only [cond_true, Option.bind_assoc, ih]
theorem wrR_nums (l : List Int) (most hi : Int) {m : Nat} (hm : most ≤ (m : Int)) : Wr S_constraintref52_writer.mk (lf_Pconstraintref52_writer_nums_s1 l most hi) (10 + m * 10) (eNums most hi l) := by
  refine (wr_listR (bad := S_constraintref52_writer.f1_bad) (fun _ _ => rfl) (fun h => by omega) (wrR_num _ 0 most) fun x hx => wrR_num x 0 hi).congr fun c => ?_
  unfold lf_Pconstraintref52_writer_nums_s1
  simp only [loopR_Pconstraintref52_writer_nums_s1_L0, bind_some']
noncomputable def putItem (fuel : Nat) (x : Int × At) (c : S_constraintref52_writer) : Option S_constraintref52_writer := (lf_Pconstraintref52_writer_num_s1 x.1 0 2147483648 c).bind fun r => lf_Pconstraintref52_writer_atom_s1 fuel x.2 r
theorem wrR_item {fuel : Nat} (hfu : 21 ≤ fuel) (x : Int × At) (ha : wtL x.2.ts ≤ 1000000000) : Wr S_constraintref52_writer.mk (putItem fuel x) 14070 (eItem x) := (wrR_num x.1 0 2147483648).bind (wrR_atom hfu x.2 ha)
noncomputable def putBind (fuel : Nat) (x : Int × T) (c : S_constraintref52_writer) : Option S_constraintref52_writer := (lf_Pconstraintref52_writer_num_s1 x.1 0 1048576 c).bind fun r => lf_Pconstraintref52_writer_term_s1 fuel x.2 r
theorem wrR_bind {fuel : Nat} (hfu : 21 ≤ fuel) (x : Int × T) (ha : wt x.2 ≤ 1000000000) : Wr S_constraintref52_writer.mk (putBind fuel x) 14010 (eBind x) := (wrR_num x.1 0 1048576).bind (wrR_term hfu x.2 ha)
noncomputable def putFire (x : S_api_Fire) (c : S_constraintref52_writer) : Option S_constraintref52_writer := (lf_Pconstraintref52_writer_num_s1 x.f0_Rule 0 40 c).bind fun r => lf_Pconstraintref52_writer_nums_s1 x.f1_IDs 4 2147483648 r
theorem wrR_fire (x : S_api_Fire) : Wr S_constraintref52_writer.mk (putFire x) 60 (eFire x) := (wrR_num x.f0_Rule 0 40).bind (wrR_nums x.f1_IDs 4 2147483648 (m := 4) (by omega))
theorem loopR_constraintref52_Config_L0 (k : S_constraintref52_writer → Option (List Int)) (fuel : Nat) : ∀ l c, lf_constraintref52_Config_L0 k fuel l c = (runR S_constraintref52_writer.f1_bad (lf_Pconstraintref52_writer_frame_s1 fuel) l c).bind k
  | [], c => rfl
  | x :: l, c => by
    have ih := loopR_constraintref52_Config_L0 k fuel l
    rw [lf_constraintref52_Config_L0, runR]
    cases hb : (!c.f1_bad) with
    | false => rfl
    | true => simp only [cond_true, Option.bind_assoc, ih]
theorem loopR_constraintref52_Config_L1 (k : S_constraintref52_writer → Option (List Int)) (fuel : Nat) : ∀ l c, lf_constraintref52_Config_L1 k fuel l c = (runR S_constraintref52_writer.f1_bad (putItem fuel) l c).bind k
  | [], c => rfl
  | x :: l, c => by
    have ih := loopR_constraintref52_Config_L1 k fuel l
    rw [lf_constraintref52_Config_L1, runR]
    cases hb : (!c.f1_bad) with
    | false => rfl
    | true => simp only [cond_true, Option.bind_assoc, ih, putItem]
theorem loopR_constraintref52_Config_L2 (k : S_constraintref52_writer → Option (List Int)) (fuel : Nat) : ∀ l c, lf_constraintref52_Config_L2 k fuel l c = (runR S_constraintref52_writer.f1_bad (putBind fuel) l c).bind k
  | [], c => rfl
  | x :: l, c => by
    have ih := loopR_constraintref52_Config_L2 k fuel l
    rw [lf_constraintref52_Config_L2, runR]
    cases hb : (!c.f1_bad) with
    | false => rfl
    | true => simp only [cond_true, Option.bind_assoc, ih, putBind]
theorem loopR_constraintref52_Config_L3 (k : S_constraintref52_writer → Option (List Int)) : ∀ l c, lf_constraintref52_Config_L3 k l c = (runR S_constraintref52_writer.f1_bad (putFire) l c).bind k
  | [], c => rfl
  | x :: l, c => by
    have ih := loopR_constraintref52_Config_L3 k l
    rw [lf_constraintref52_Config_L3, runR]
    cases hb : (!c.f1_bad) with
    | false => rfl
    | true => simp only [cond_true, Option.bind_assoc, ih, putFire]
theorem out_ofR {f : S_constraintref52_writer → Option S_constraintref52_writer} {N : Nat} {r : Option (List Int)} (h : Wr S_constraintref52_writer.mk f N r) (hN : N ≤ 1000000000) : ((f ⟨[], false⟩).bind fun c => lf_Pconstraintref52_writer_bytes_s1 c) = some (r.getD []) := by
  obtain ⟨b1, bad1, e1, l1, m1, o1⟩ := h [] false (by simpa using hN)
  rw [e1, Option.bind_some]
  have o1 := o1 rfl
  unfold lf_Pconstraintref52_writer_bytes_s1
  cases r with
  | none =>
    have o1 : bad1 = true := o1
    subst o1
    rfl
  | some e =>
    obtain ⟨rfl, rfl⟩ := o1
    simp
theorem wrR_Config {fuel : Nat} (hfu : 21 ≤ fuel) (c : S_api_Config) (h : ConfigS c) : lf_constraintref52_Config fuel c = some ((eConfig c).getD []) := by
  have hn := h.n
  have h := ((wrR_num 2 2 2).bind ((wr_listR (bad := S_constraintref52_writer.f1_bad) (put := lf_Pconstraintref52_writer_frame_s1 fuel) (l := c.f0_Stack) (m := 1000) (fun _ _ => rfl) (fun h => by omega) (wrR_num _ 0 1000) fun x hx => wrR_frame hfu x (h.k x hx)).bind ((wr_listR (bad := S_constraintref52_writer.f1_bad) (put := putItem fuel) (l := c.f1_Store) (m := 500) (fun _ _ => rfl) (fun h => by omega) (wrR_num _ 0 500) fun x hx => wrR_item hfu x (h.s x hx)).bind ((wr_listR (bad := S_constraintref52_writer.f1_bad) (put := putBind fuel) (l := c.f2_Binds) (m := c.f2_Binds.length) (fun _ _ => rfl) (fun h => Nat.le_refl _) (wrR_num _ 0 1048576) fun x hx => wrR_bind hfu x (h.b x hx)).bind ((wr_listR (bad := S_constraintref52_writer.f1_bad) (put := putFire) (l := c.f3_Fired) (m := 5000) (fun _ _ => rfl) (fun h => by omega) (wrR_num _ 0 5000) fun x hx => wrR_fire x).bind ((wrR_num c.f4_Next 0 2147483648).bind ((wrR_num c.f5_Fresh 0 1048576).bind (wrR_flag c.f6_Failed))))))))
  rw [← out_ofR (r := eConfig c) h (by omega)]
  unfold lf_constraintref52_Config
  simp only [loopR_constraintref52_Config_L0, loopR_constraintref52_Config_L1, loopR_constraintref52_Config_L2, loopR_constraintref52_Config_L3, Option.bind_assoc, bind_some']
end Go.Proofs.YtdoljfkjdfaakaaGreat


namespace Go.Proofs.YtdoljfkjdfaakaaGreat
set_option maxRecDepth 100000
open Go.RowKit

set_option maxHeartbeats 1000000 in
theorem lg_constraintlaw52_goals (l_a0 : (List S_api_Frame)) (res : (List Gl)) (hr : lf_constraintlaw52_goals l_a0 = some res) : Gives Tryz.prog 56 [.lst (l_a0.map enc_S_api_Frame)] (.lst (res.map encG)) := by
  unfold lf_constraintlaw52_goals at hr
  refine spec_env [(0, .lst (l_a0.map enc_S_api_Frame))] Tryz.func56 rfl rfl fun K hK => ?_
  refine g_seq ?_
  refine g_run (by kernel_rfl) [(0, .w)] rfl ?_
  refine r_w rfl rfl rfl (s_nilOwn 73 3 (.inl rfl)) ?_
  rintro _ _ ⟨u2_0, rfl, rfl⟩
  refine r_end ?_
  refine g_seq ?_
  refine g_run (by kernel_rfl) [(0, .w)] rfl ?_
  refine r_w rfl rfl rfl (s_nilOwn 73 3 (.inl rfl)) ?_
  rintro _ _ ⟨u3_1, rfl, rfl⟩
  refine r_end ?_
  refine g_seq ?_
  refine g_seq ?_
  refine g_run (by kernel_rfl) [(0, .d)] rfl ?_
  refine r_d rfl rfl rfl (s_assign rfl rfl) ?_
  refine r_end ?_
  obtain ⟨kk0, hkk0, hr⟩ := exK (fun k => lf_constraintlaw52_goals_L0 k l_a0 []) hr
  refine g_len 0 rfl (asl rfl) fun hla0 => ?_
  simp only [List.length_map] at hla0
  refine g_blockJ (fun env σ => ∃ (out_7 : (List Gl)) (u_6 : Value), env = [(3, .own u_6 (out_7.map encG))] ∧ σ = [.row u_6 out_7.length 73 3] ∧ kk0 out_7 = some res) ?_ (fun HK0 => ?_)
  ·
   rintro _ _ ⟨out_7, u_6, rfl, rfl, hr⟩
   rw [hkk0] at hr
   refine g_seq ?_
   refine g_run (by kernel_rfl) [(0, .d), (1, .d)] rfl ?_
   refine r_d rfl rfl rfl (s_move rfl rfl) ?_
   refine r_d rfl rfl rfl (s_assign rfl rfl) ?_
   refine r_end ?_
   obtain rfl := Option.some.inj hr
   refine g_ret Tryz.func56 _ (.cons (resTmp rfl (Wk.own _ _)) .nil) ?_
   rfl
  ·
   refine g_sub [(0, .lst (l_a0.map enc_S_api_Frame)), (3, .own u3_1 ([].map encG)), (4, .int .i64 ((0 : Nat) : Int))] (Sub.cons' rfl (Sub.cons' rfl (Sub.cons' rfl (Sub.nil _)))) ?_
   refine g_perm [_] _ (pf0 _) ?_
   refine g_loop (fun n env σ => ∃ (out_4 : (List Gl)) (i_5 : Nat) (u_3 : Value), (n = l_a0.length - i_5) ∧ (env = [(0, .lst (l_a0.map enc_S_api_Frame)), (3, .own u_3 (out_4.map encG)), (4, .int .i64 (i_5 : Int))]) ∧ (σ = [.row u_3 out_4.length 73 3]) ∧ (i_5 ≤ l_a0.length) ∧ (lf_constraintlaw52_goals_L0 kk0 (l_a0.drop i_5) out_4 = some res)) _ ⟨[], 0, u3_1, rfl, rfl, rfl, Nat.zero_le _, hr⟩ ?_
   rintro n _ _ ⟨out_4, i_5, u_3, rfl, rfl, rfl, hi0, hr⟩ IH0
   rcases listStep l_a0 i_5 hi0 with ⟨ht0, hd0, he0⟩ | ⟨q_8, ht0, hd0, hq0, hlt0⟩
   ·
    rw [hd0, lf_constraintlaw52_goals_L0] at hr
    refine g_seq ?_
    refine g_seq ?_
    refine g_run (by kernel_rfl) [(0, .d), (1, .d), (2, .d), (3, .d)] rfl ?_
    refine r_d rfl rfl rfl (s_move rfl rfl) ?_
    refine r_d rfl rfl rfl (s_move rfl rfl) ?_
    refine r_d rfl rfl rfl (m_len (f := enc_S_api_Frame) l_a0 rfl el_L_api_Frame rfl (asl rfl)) ?_
    refine r_d rfl rfl rfl (s_cmp rfl rfl rfl rfl) ?_
    refine r_end ?_
    refine g_known 8 false rfl ht0 ?_
    refine g_condF rfl ?_
    refine g_exit rfl ?_
    refine g_sub [(3, .own u_3 (out_4.map encG))] (Sub.cons' rfl (Sub.nil _)) ?_
    exact HK0 _ _ ⟨out_4, u_3, rfl, rfl, hr⟩
   ·
    rw [hd0, lf_constraintlaw52_goals_L0] at hr
    refine g_seq ?_
    refine g_seq ?_
    refine g_run (by kernel_rfl) [(0, .d), (1, .d), (2, .d), (3, .d)] rfl ?_
    refine r_d rfl rfl rfl (s_move rfl rfl) ?_
    refine r_d rfl rfl rfl (s_move rfl rfl) ?_
    refine r_d rfl rfl rfl (m_len (f := enc_S_api_Frame) l_a0 rfl el_L_api_Frame rfl (asl rfl)) ?_
    refine r_d rfl rfl rfl (s_cmp rfl rfl rfl rfl) ?_
    refine r_end ?_
    refine g_known 8 true rfl ht0 ?_
    refine g_condT rfl ?_
    refine g_skip ?_
    refine g_seq ?_
    refine g_block ?_
    refine g_run (by kernel_rfl) [(0, .d), (1, .d), (2, .d), (3, .d), (4, .d), (5, .d), (6, .d), (7, .w), (8, .d)] rfl ?_
    refine r_d rfl rfl rfl (s_move rfl rfl) ?_
    refine r_d rfl rfl rfl (s_move rfl rfl) ?_
    refine r_d rfl rfl rfl (s_move rfl rfl) ?_
    refine r_d rfl rfl rfl (m_index (f := enc_S_api_Frame) l_a0 rfl el_L_api_Frame rfl (asl rfl) rfl hq0 sz_S_api_Frame rfl) ?_
    refine r_d rfl rfl rfl (s_fieldAddr rfl fl_api_Frame_0 rfl rfl rfl rfl) ?_
    refine r_d rfl rfl rfl (s_load rfl rfl (by exact ty_api_Goal) (sz_encG _)) ?_
    refine r_d rfl rfl rfl (m_lit (f := encG) [.tmp 16] [q_8.f0_Goal] rfl el_L_api_Goal rfl rfl (by decide) (by decide) (.cons rfl (Wk.refl _) .nil) sz_encG (fun _ => rfl)) ?_
    obtain ⟨l_9, hl_9, hr⟩ := bindS hr
    refine r_w rfl rfl rfl (m_appOwn (f := encG) out_4 [q_8.f0_Goal] rfl el_L_api_Goal rfl rfl (asl rfl) (pf0 _) rfl sz_encG hl_9) ?_
    rintro _ _ ⟨u18_9, rfl, rfl⟩
    refine r_d rfl rfl rfl (s_assign rfl rfl) ?_
    refine r_end ?_
    refine g_inBlock ?_
    refine g_run (by kernel_rfl) [(0, .d), (1, .d), (2, .d)] rfl ?_
    refine r_d rfl rfl rfl (s_move rfl rfl) ?_
    refine r_d rfl rfl rfl (s_ar (r := ((i_5 + 1 : Nat) : Int)) rfl rfl rfl (by simp [iar]) (by omega)) ?_
    refine r_d rfl rfl rfl (s_assign rfl rfl) ?_
    refine r_end ?_
    refine g_sub [(0, .lst (l_a0.map enc_S_api_Frame)), (3, .own u18_9 (l_9.map encG)), (4, .int .i64 ((i_5 + 1 : Nat) : Int))] (Sub.cons' rfl (Sub.cons' rfl (Sub.cons' rfl (Sub.nil _)))) ?_
    exact IH0 _ _ _ (by omega) ⟨l_9, (i_5 + 1), u18_9, rfl, rfl, rfl, (by omega), hr⟩

set_option maxHeartbeats 1000000 in
theorem lg_constraintlaw23_tiny (l_a0 : (List T)) (res : Bool) (hr : lf_constraintlaw23_tiny l_a0 = some res) : Gives Tryz.prog 149 [.lst (l_a0.map encT)] (.bool res) := by
  unfold lf_constraintlaw23_tiny at hr
  refine spec_env [(0, .lst (l_a0.map encT))] Tryz.func149 rfl rfl fun K hK => ?_
  refine g_seq ?_
  refine g_run (by kernel_rfl) [(0, .d)] rfl ?_
  refine r_d rfl rfl rfl (s_assign rfl rfl) ?_
  refine r_end ?_
  refine g_seq ?_
  refine g_seq ?_
  refine g_run (by kernel_rfl) [(0, .d), (1, .d), (2, .d)] rfl ?_
  refine r_d rfl rfl rfl (s_move rfl rfl) ?_
  refine r_d rfl rfl rfl (m_len (f := encT) l_a0 rfl el_L_api_Term rfl (asl rfl)) ?_
  refine r_d rfl rfl rfl (s_cmp rfl rfl rfl rfl) ?_
  refine r_end ?_
  refine g_sB 7 rfl hr (fun h7_0 hr => ?_) (fun h7_0 hr => ?_)
  ·
   refine g_condT rfl ?_
   refine g_seq ?_
   refine g_run (by kernel_rfl) [(0, .d)] rfl ?_
   refine r_d rfl rfl rfl (s_assign rfl rfl) ?_
   refine r_end ?_
   obtain rfl := Option.some.inj hr
   refine g_ret Tryz.func149 _ (.cons (resTmp rfl (Wk.refl _)) .nil) ?_
   rfl
  ·
   refine g_condF rfl ?_
   refine g_skip ?_
   refine g_seq ?_
   refine g_run (by kernel_rfl) [(0, .d)] rfl ?_
   refine r_d rfl rfl rfl (s_assign rfl rfl) ?_
   refine r_end ?_
   refine g_seq ?_
   refine g_seq ?_
   refine g_run (by kernel_rfl) [(0, .d)] rfl ?_
   refine r_d rfl rfl rfl (s_assign rfl rfl) ?_
   refine r_end ?_
   obtain ⟨kk0, hkk0, hr⟩ := exK (fun k => lf_constraintlaw23_tiny_L0 k l_a0 0) hr
   refine g_len 0 rfl (asl rfl) fun hla0 => ?_
   simp only [List.length_map] at hla0
   refine g_blockJ (fun env σ => env = [] ∧ σ = [] ∧ kk0 = some res) ?_ (fun HK0 => ?_)
   ·
    rintro _ _ ⟨rfl, rfl, hr⟩
    rw [hkk0] at hr
    refine g_seq ?_
    refine g_run (by kernel_rfl) [(0, .d)] rfl ?_
    refine r_d rfl rfl rfl (s_assign rfl rfl) ?_
    refine r_end ?_
    obtain rfl := Option.some.inj hr
    refine g_ret Tryz.func149 _ (.cons (resTmp rfl (Wk.refl _)) .nil) ?_
    rfl
   ·
    refine g_sub [(0, .lst (l_a0.map encT)), (3, .int .i64 0), (4, .int .i64 ((0 : Nat) : Int))] (Sub.cons' rfl (Sub.cons' rfl (Sub.cons' rfl (Sub.nil _)))) ?_
    refine g_loop (fun n env σ => ∃ (n_2 : Int) (i_3 : Nat), (n = l_a0.length - i_3) ∧ (env = [(0, .lst (l_a0.map encT)), (3, .int .i64 n_2), (4, .int .i64 (i_3 : Int))]) ∧ (σ = []) ∧ (i_3 ≤ l_a0.length) ∧ (lf_constraintlaw23_tiny_L0 kk0 (l_a0.drop i_3) n_2 = some res)) _ ⟨0, 0, rfl, rfl, rfl, Nat.zero_le _, hr⟩ ?_
    rintro n _ _ ⟨n_2, i_3, rfl, rfl, rfl, hi0, hr⟩ IH0
    rcases listStep l_a0 i_3 hi0 with ⟨ht0, hd0, he0⟩ | ⟨q_4, ht0, hd0, hq0, hlt0⟩
    ·
     rw [hd0, lf_constraintlaw23_tiny_L0] at hr
     refine g_seq ?_
     refine g_seq ?_
     refine g_run (by kernel_rfl) [(0, .d), (1, .d), (2, .d), (3, .d)] rfl ?_
     refine r_d rfl rfl rfl (s_move rfl rfl) ?_
     refine r_d rfl rfl rfl (s_move rfl rfl) ?_
     refine r_d rfl rfl rfl (m_len (f := encT) l_a0 rfl el_L_api_Term rfl (asl rfl)) ?_
     refine r_d rfl rfl rfl (s_cmp rfl rfl rfl rfl) ?_
     refine r_end ?_
     refine g_known 11 false rfl ht0 ?_
     refine g_condF rfl ?_
     refine g_exit rfl ?_
     refine g_sub [] (Sub.nil _) ?_
     exact HK0 _ _ ⟨rfl, rfl, hr⟩
    ·
     rw [hd0, lf_constraintlaw23_tiny_L0] at hr
     refine g_seq ?_
     refine g_seq ?_
     refine g_run (by kernel_rfl) [(0, .d), (1, .d), (2, .d), (3, .d)] rfl ?_
     refine r_d rfl rfl rfl (s_move rfl rfl) ?_
     refine r_d rfl rfl rfl (s_move rfl rfl) ?_
     refine r_d rfl rfl rfl (m_len (f := encT) l_a0 rfl el_L_api_Term rfl (asl rfl)) ?_
     refine r_d rfl rfl rfl (s_cmp rfl rfl rfl rfl) ?_
     refine r_end ?_
     refine g_known 11 true rfl ht0 ?_
     refine g_condT rfl ?_
     refine g_skip ?_
     refine g_seq ?_
     refine g_block ?_
     refine g_seq ?_
     refine g_run (by kernel_rfl) [(0, .d), (1, .d), (2, .d), (3, .d), (4, .d), (5, .d), (6, .d), (7, .d)] rfl ?_
     refine r_d rfl rfl rfl (s_move rfl rfl) ?_
     refine r_d rfl rfl rfl (s_move rfl rfl) ?_
     refine r_d rfl rfl rfl (s_move rfl rfl) ?_
     refine r_d rfl rfl rfl (m_index (f := encT) l_a0 rfl el_L_api_Term rfl (asl rfl) rfl hq0 sz_encT rfl) ?_
     refine r_d rfl rfl rfl (s_load rfl rfl (by exact ty_api_Term) (sz_encT _)) ?_
     obtain ⟨r_5, hr_5, hr⟩ := bindS hr
     refine r_d rfl rfl rfl (s_callD rfl cl_constraintref03_Size (.cons rfl (Wk.refl _) .nil) (lx_constraintref03_Size _ _ hr_5)) ?_
     refine r_d rfl rfl rfl (s_arW rfl rfl rfl rfl) ?_
     refine r_d rfl rfl rfl (s_assign rfl rfl) ?_
     refine r_end ?_
     refine g_seq ?_
     refine g_run (by kernel_rfl) [(0, .d), (1, .d)] rfl ?_
     refine r_d rfl rfl rfl (s_move rfl rfl) ?_
     refine r_d rfl rfl rfl (s_cmp rfl rfl rfl rfl) ?_
     refine r_end ?_
     refine g_sB 22 rfl hr (fun h22_5 hr => ?_) (fun h22_5 hr => ?_)
     ·
      refine g_condT rfl ?_
      refine g_seq ?_
      refine g_run (by kernel_rfl) [(0, .d)] rfl ?_
      refine r_d rfl rfl rfl (s_assign rfl rfl) ?_
      refine r_end ?_
      obtain rfl := Option.some.inj hr
      refine g_ret Tryz.func149 _ (.cons (resTmp rfl (Wk.refl _)) .nil) ?_
      rfl
     ·
      refine g_condF rfl ?_
      refine g_skip ?_
      refine g_inBlock ?_
      refine g_run (by kernel_rfl) [(0, .d), (1, .d), (2, .d)] rfl ?_
      refine r_d rfl rfl rfl (s_move rfl rfl) ?_
      refine r_d rfl rfl rfl (s_ar (r := ((i_3 + 1 : Nat) : Int)) rfl rfl rfl (by simp [iar]) (by omega)) ?_
      refine r_d rfl rfl rfl (s_assign rfl rfl) ?_
      refine r_end ?_
      refine g_sub [(0, .lst (l_a0.map encT)), (3, .int .i64 (wr (n_2 + r_5))), (4, .int .i64 ((i_3 + 1 : Nat) : Int))] (Sub.cons' rfl (Sub.cons' rfl (Sub.cons' rfl (Sub.nil _)))) ?_
      exact IH0 _ _ _ (by omega) ⟨(wr (n_2 + r_5)), (i_3 + 1), rfl, rfl, rfl, (by omega), hr⟩

set_option maxHeartbeats 1000000 in
theorem lg_constraintlaw23_Goals (l_a0 : (List Gl)) (most_a1 : Int) (res : Bool) (hr : lf_constraintlaw23_Goals l_a0 most_a1 = some res) : Gives Tryz.prog 55 [.lst (l_a0.map encG), .int .i64 most_a1] (.bool res) := by
  unfold lf_constraintlaw23_Goals at hr
  refine spec_env [(0, .lst (l_a0.map encG)), (1, .int .i64 most_a1)] Tryz.func55 rfl rfl fun K hK => ?_
  refine g_seq ?_
  refine g_run (by kernel_rfl) [(0, .d)] rfl ?_
  refine r_d rfl rfl rfl (s_assign rfl rfl) ?_
  refine r_end ?_
  refine g_seq ?_
  refine g_seq ?_
  refine g_run (by kernel_rfl) [(0, .d), (1, .d), (2, .d), (3, .d)] rfl ?_
  refine r_d rfl rfl rfl (s_move rfl rfl) ?_
  refine r_d rfl rfl rfl (m_len (f := encG) l_a0 rfl el_L_api_Goal rfl (asl rfl)) ?_
  refine r_d rfl rfl rfl (s_move rfl rfl) ?_
  refine r_d rfl rfl rfl (s_cmp rfl rfl rfl rfl) ?_
  refine r_end ?_
  refine g_sB 9 rfl hr (fun h9_0 hr => ?_) (fun h9_0 hr => ?_)
  ·
   refine g_condT rfl ?_
   refine g_seq ?_
   refine g_run (by kernel_rfl) [(0, .d)] rfl ?_
   refine r_d rfl rfl rfl (s_assign rfl rfl) ?_
   refine r_end ?_
   obtain rfl := Option.some.inj hr
   refine g_ret Tryz.func55 _ (.cons (resTmp rfl (Wk.refl _)) .nil) ?_
   rfl
  ·
   refine g_condF rfl ?_
   refine g_skip ?_
   refine g_seq ?_
   refine g_seq ?_
   refine g_run (by kernel_rfl) [(0, .d)] rfl ?_
   refine r_d rfl rfl rfl (s_assign rfl rfl) ?_
   refine r_end ?_
   obtain ⟨kk0, hkk0, hr⟩ := exK (fun k => lf_constraintlaw23_Goals_L0 k l_a0) hr
   refine g_len 0 rfl (asl rfl) fun hla0 => ?_
   simp only [List.length_map] at hla0
   refine g_blockJ (fun env σ => env = [] ∧ σ = [] ∧ kk0 = some res) ?_ (fun HK0 => ?_)
   ·
    rintro _ _ ⟨rfl, rfl, hr⟩
    rw [hkk0] at hr
    refine g_seq ?_
    refine g_run (by kernel_rfl) [(0, .d)] rfl ?_
    refine r_d rfl rfl rfl (s_assign rfl rfl) ?_
    refine r_end ?_
    obtain rfl := Option.some.inj hr
    refine g_ret Tryz.func55 _ (.cons (resTmp rfl (Wk.refl _)) .nil) ?_
    rfl
   ·
    refine g_sub [(0, .lst (l_a0.map encG)), (5, .int .i64 ((0 : Nat) : Int))] (Sub.cons' rfl (Sub.cons' rfl (Sub.nil _))) ?_
    refine g_loop (fun n env σ => ∃ (i_2 : Nat), (n = l_a0.length - i_2) ∧ (env = [(0, .lst (l_a0.map encG)), (5, .int .i64 (i_2 : Int))]) ∧ (σ = []) ∧ (i_2 ≤ l_a0.length) ∧ (lf_constraintlaw23_Goals_L0 kk0 (l_a0.drop i_2) = some res)) _ ⟨0, rfl, rfl, rfl, Nat.zero_le _, hr⟩ ?_
    rintro n _ _ ⟨i_2, rfl, rfl, rfl, hi0, hr⟩ IH0
    rcases listStep l_a0 i_2 hi0 with ⟨ht0, hd0, he0⟩ | ⟨q_3, ht0, hd0, hq0, hlt0⟩
    ·
     rw [hd0, lf_constraintlaw23_Goals_L0] at hr
     refine g_seq ?_
     refine g_seq ?_
     refine g_run (by kernel_rfl) [(0, .d), (1, .d), (2, .d), (3, .d)] rfl ?_
     refine r_d rfl rfl rfl (s_move rfl rfl) ?_
     refine r_d rfl rfl rfl (s_move rfl rfl) ?_
     refine r_d rfl rfl rfl (m_len (f := encG) l_a0 rfl el_L_api_Goal rfl (asl rfl)) ?_
     refine r_d rfl rfl rfl (s_cmp rfl rfl rfl rfl) ?_
     refine r_end ?_
     refine g_known 13 false rfl ht0 ?_
     refine g_condF rfl ?_
     refine g_exit rfl ?_
     refine g_sub [] (Sub.nil _) ?_
     exact HK0 _ _ ⟨rfl, rfl, hr⟩
    ·
     rw [hd0, lf_constraintlaw23_Goals_L0] at hr
     refine g_seq ?_
     refine g_seq ?_
     refine g_run (by kernel_rfl) [(0, .d), (1, .d), (2, .d), (3, .d)] rfl ?_
     refine r_d rfl rfl rfl (s_move rfl rfl) ?_
     refine r_d rfl rfl rfl (s_move rfl rfl) ?_
     refine r_d rfl rfl rfl (m_len (f := encG) l_a0 rfl el_L_api_Goal rfl (asl rfl)) ?_
     refine r_d rfl rfl rfl (s_cmp rfl rfl rfl rfl) ?_
     refine r_end ?_
     refine g_known 13 true rfl ht0 ?_
     refine g_condT rfl ?_
     refine g_skip ?_
     refine g_seq ?_
     refine g_block ?_
     refine g_seq ?_
     refine g_run (by kernel_rfl) [(0, .d), (1, .d), (2, .d), (3, .d), (4, .d), (5, .d), (6, .d)] rfl ?_
     refine r_d rfl rfl rfl (s_move rfl rfl) ?_
     refine r_d rfl rfl rfl (s_move rfl rfl) ?_
     refine r_d rfl rfl rfl (m_index (f := encG) l_a0 rfl el_L_api_Goal rfl (asl rfl) rfl hq0 sz_encG rfl) ?_
     refine r_d rfl rfl rfl (s_fieldAddr rfl fl_api_Goal_2 rfl rfl rfl rfl) ?_
     refine r_d rfl rfl rfl (s_load rfl rfl (by exact ty_L_api_Term) rfl) ?_
     obtain ⟨r_4, hr_4, hr⟩ := bindS hr
     refine r_d rfl rfl rfl (s_callD rfl cl_constraintlaw23_tiny (.cons rfl (Wk.refl _) .nil) (lg_constraintlaw23_tiny _ _ hr_4)) ?_
     refine r_d rfl rfl rfl (s_not rfl rfl) ?_
     refine r_end ?_
     refine g_sB 22 rfl hr (fun h22_4 hr => ?_) (fun h22_4 hr => ?_)
     ·
      refine g_condT rfl ?_
      refine g_seq ?_
      refine g_run (by kernel_rfl) [(0, .d)] rfl ?_
      refine r_d rfl rfl rfl (s_assign rfl rfl) ?_
      refine r_end ?_
      obtain rfl := Option.some.inj hr
      refine g_ret Tryz.func55 _ (.cons (resTmp rfl (Wk.refl _)) .nil) ?_
      rfl
     ·
      refine g_condF rfl ?_
      refine g_skip ?_
      refine g_inBlock ?_
      refine g_run (by kernel_rfl) [(0, .d), (1, .d), (2, .d)] rfl ?_
      refine r_d rfl rfl rfl (s_move rfl rfl) ?_
      refine r_d rfl rfl rfl (s_ar (r := ((i_2 + 1 : Nat) : Int)) rfl rfl rfl (by simp [iar]) (by omega)) ?_
      refine r_d rfl rfl rfl (s_assign rfl rfl) ?_
      refine r_end ?_
      refine g_sub [(0, .lst (l_a0.map encG)), (5, .int .i64 ((i_2 + 1 : Nat) : Int))] (Sub.cons' rfl (Sub.cons' rfl (Sub.nil _))) ?_
      exact IH0 _ _ _ (by omega) ⟨(i_2 + 1), rfl, rfl, rfl, (by omega), hr⟩

set_option maxHeartbeats 1000000 in
theorem lg_constraintlaw23_Parts (l_a0 : (List (Int × At))) (b_a1 : (List (Int × T))) (h_a2 : (List S_api_Fire)) (res : Bool) (hr : lf_constraintlaw23_Parts l_a0 b_a1 h_a2 = some res) : Gives Tryz.prog 57 [.lst (l_a0.map encIt), .lst (b_a1.map encP), .lst (h_a2.map enc_S_api_Fire)] (.bool res) := by
  unfold lf_constraintlaw23_Parts at hr
  refine spec_env [(0, .lst (l_a0.map encIt)), (1, .lst (b_a1.map encP)), (2, .lst (h_a2.map enc_S_api_Fire))] Tryz.func57 rfl rfl fun K hK => ?_
  refine g_seq ?_
  refine g_run (by kernel_rfl) [(0, .d)] rfl ?_
  refine r_d rfl rfl rfl (s_assign rfl rfl) ?_
  refine r_end ?_
  refine g_seq ?_
  refine g_seq ?_
  refine g_run (by kernel_rfl) [(0, .d), (1, .d), (2, .d), (3, .d), (4, .d), (5, .d), (6, .d), (7, .d), (8, .d), (9, .d), (10, .d), (11, .d), (12, .d)] rfl ?_
  refine r_d rfl rfl rfl (s_move rfl rfl) ?_
  refine r_d rfl rfl rfl (m_len (f := encIt) l_a0 rfl el_L_api_Item rfl (asl rfl)) ?_
  refine r_d rfl rfl rfl (s_cmp rfl rfl rfl rfl) ?_
  refine r_d rfl rfl rfl (s_move rfl rfl) ?_
  refine r_sB 13 rfl hr (fun h13_0 hr => ?_) (fun h13_0 hr => ?_)
  ·
   refine r_skip rfl rfl rfl ?_
   refine r_skip rfl rfl rfl ?_
   refine r_skip rfl rfl rfl ?_
   refine r_d rfl rfl rfl (s_pickT rfl rfl rfl) ?_
   refine r_d rfl rfl rfl (s_move rfl rfl) ?_
   refine r_skip rfl rfl rfl ?_
   refine r_skip rfl rfl rfl ?_
   refine r_skip rfl rfl rfl ?_
   refine r_d rfl rfl rfl (s_pickT rfl rfl rfl) ?_
   refine r_end ?_
   refine g_condT rfl ?_
   refine g_seq ?_
   refine g_run (by kernel_rfl) [(0, .d)] rfl ?_
   refine r_d rfl rfl rfl (s_assign rfl rfl) ?_
   refine r_end ?_
   obtain rfl := Option.some.inj hr
   refine g_ret Tryz.func57 _ (.cons (resTmp rfl (Wk.refl _)) .nil) ?_
   rfl
  ·
   refine r_d rfl rfl rfl (s_move rfl rfl) ?_
   refine r_d rfl rfl rfl (m_len (f := encP) b_a1 rfl el_api_Binds rfl (asl rfl)) ?_
   refine r_d rfl rfl rfl (s_cmp rfl rfl rfl rfl) ?_
   refine r_d rfl rfl rfl (s_pickF rfl rfl rfl) ?_
   refine r_d rfl rfl rfl (s_move rfl rfl) ?_
   refine r_sB 18 rfl hr (fun h18_1 hr => ?_) (fun h18_1 hr => ?_)
   ·
    refine r_skip rfl rfl rfl ?_
    refine r_skip rfl rfl rfl ?_
    refine r_skip rfl rfl rfl ?_
    refine r_d rfl rfl rfl (s_pickT rfl rfl rfl) ?_
    refine r_end ?_
    refine g_condT rfl ?_
    refine g_seq ?_
    refine g_run (by kernel_rfl) [(0, .d)] rfl ?_
    refine r_d rfl rfl rfl (s_assign rfl rfl) ?_
    refine r_end ?_
    obtain rfl := Option.some.inj hr
    refine g_ret Tryz.func57 _ (.cons (resTmp rfl (Wk.refl _)) .nil) ?_
    rfl
   ·
    refine r_d rfl rfl rfl (s_move rfl rfl) ?_
    refine r_d rfl rfl rfl (m_len (f := enc_S_api_Fire) h_a2 rfl el_L_api_Fire rfl (asl rfl)) ?_
    refine r_d rfl rfl rfl (s_cmp rfl rfl rfl rfl) ?_
    refine r_d rfl rfl rfl (s_pickF rfl rfl rfl) ?_
    refine r_end ?_
    refine g_sB 22 rfl hr (fun h22_2 hr => ?_) (fun h22_2 hr => ?_)
    ·
     refine g_condT rfl ?_
     refine g_seq ?_
     refine g_run (by kernel_rfl) [(0, .d)] rfl ?_
     refine r_d rfl rfl rfl (s_assign rfl rfl) ?_
     refine r_end ?_
     obtain rfl := Option.some.inj hr
     refine g_ret Tryz.func57 _ (.cons (resTmp rfl (Wk.refl _)) .nil) ?_
     rfl
    ·
     refine g_condF rfl ?_
     refine g_skip ?_
     refine g_seq ?_
     refine g_seq ?_
     refine g_run (by kernel_rfl) [(0, .d)] rfl ?_
     refine r_d rfl rfl rfl (s_assign rfl rfl) ?_
     refine r_end ?_
     obtain ⟨kk0, hkk0, hr⟩ := exK (fun k => lf_constraintlaw23_Parts_L0 k l_a0) hr
     refine g_len 0 rfl (asl rfl) fun hla0 => ?_
     simp only [List.length_map] at hla0
     refine g_blockJ (fun env σ => env = [(1, .lst (b_a1.map encP)), (2, .lst (h_a2.map enc_S_api_Fire))] ∧ σ = [] ∧ kk0 = some res) ?_ (fun HK0 => ?_)
     ·
      rintro _ _ ⟨rfl, rfl, hr⟩
      rw [hkk0] at hr
      refine g_seq ?_
      refine g_seq ?_
      refine g_run (by kernel_rfl) [(0, .d)] rfl ?_
      refine r_d rfl rfl rfl (s_assign rfl rfl) ?_
      refine r_end ?_
      obtain ⟨kk1, hkk1, hr⟩ := exK (fun k => lf_constraintlaw23_Parts_L1 k b_a1) hr
      refine g_len 1 rfl (asl rfl) fun hla1 => ?_
      simp only [List.length_map] at hla1
      refine g_blockJ (fun env σ => env = [(2, .lst (h_a2.map enc_S_api_Fire))] ∧ σ = [] ∧ kk1 = some res) ?_ (fun HK1 => ?_)
      ·
       rintro _ _ ⟨rfl, rfl, hr⟩
       rw [hkk1] at hr
       refine g_seq ?_
       refine g_seq ?_
       refine g_run (by kernel_rfl) [(0, .d)] rfl ?_
       refine r_d rfl rfl rfl (s_assign rfl rfl) ?_
       refine r_end ?_
       obtain ⟨kk2, hkk2, hr⟩ := exK (fun k => lf_constraintlaw23_Parts_L2 k h_a2) hr
       refine g_len 2 rfl (asl rfl) fun hla2 => ?_
       simp only [List.length_map] at hla2
       refine g_blockJ (fun env σ => env = [] ∧ σ = [] ∧ kk2 = some res) ?_ (fun HK2 => ?_)
       ·
        rintro _ _ ⟨rfl, rfl, hr⟩
        rw [hkk2] at hr
        refine g_seq ?_
        refine g_run (by kernel_rfl) [(0, .d)] rfl ?_
        refine r_d rfl rfl rfl (s_assign rfl rfl) ?_
        refine r_end ?_
        obtain rfl := Option.some.inj hr
        refine g_ret Tryz.func57 _ (.cons (resTmp rfl (Wk.refl _)) .nil) ?_
        rfl
       ·
        refine g_sub [(2, .lst (h_a2.map enc_S_api_Fire)), (9, .int .i64 ((0 : Nat) : Int))] (Sub.cons' rfl (Sub.cons' rfl (Sub.nil _))) ?_
        refine g_loop (fun n env σ => ∃ (i_6 : Nat), (n = h_a2.length - i_6) ∧ (env = [(2, .lst (h_a2.map enc_S_api_Fire)), (9, .int .i64 (i_6 : Int))]) ∧ (σ = []) ∧ (i_6 ≤ h_a2.length) ∧ (lf_constraintlaw23_Parts_L2 kk2 (h_a2.drop i_6) = some res)) _ ⟨0, rfl, rfl, rfl, Nat.zero_le _, hr⟩ ?_
        rintro n _ _ ⟨i_6, rfl, rfl, rfl, hi2, hr⟩ IH2
        rcases listStep h_a2 i_6 hi2 with ⟨ht2, hd2, he2⟩ | ⟨q_7, ht2, hd2, hq2, hlt2⟩
        ·
         rw [hd2, lf_constraintlaw23_Parts_L2] at hr
         refine g_seq ?_
         refine g_seq ?_
         refine g_run (by kernel_rfl) [(0, .d), (1, .d), (2, .d), (3, .d)] rfl ?_
         refine r_d rfl rfl rfl (s_move rfl rfl) ?_
         refine r_d rfl rfl rfl (s_move rfl rfl) ?_
         refine r_d rfl rfl rfl (m_len (f := enc_S_api_Fire) h_a2 rfl el_L_api_Fire rfl (asl rfl)) ?_
         refine r_d rfl rfl rfl (s_cmp rfl rfl rfl rfl) ?_
         refine r_end ?_
         refine g_known 53 false rfl ht2 ?_
         refine g_condF rfl ?_
         refine g_exit rfl ?_
         refine g_sub [] (Sub.nil _) ?_
         exact HK2 _ _ ⟨rfl, rfl, hr⟩
        ·
         rw [hd2, lf_constraintlaw23_Parts_L2] at hr
         refine g_seq ?_
         refine g_seq ?_
         refine g_run (by kernel_rfl) [(0, .d), (1, .d), (2, .d), (3, .d)] rfl ?_
         refine r_d rfl rfl rfl (s_move rfl rfl) ?_
         refine r_d rfl rfl rfl (s_move rfl rfl) ?_
         refine r_d rfl rfl rfl (m_len (f := enc_S_api_Fire) h_a2 rfl el_L_api_Fire rfl (asl rfl)) ?_
         refine r_d rfl rfl rfl (s_cmp rfl rfl rfl rfl) ?_
         refine r_end ?_
         refine g_known 53 true rfl ht2 ?_
         refine g_condT rfl ?_
         refine g_skip ?_
         refine g_seq ?_
         refine g_block ?_
         refine g_seq ?_
         refine g_run (by kernel_rfl) [(0, .d), (1, .d), (2, .d), (3, .d), (4, .d), (5, .d), (6, .d)] rfl ?_
         refine r_d rfl rfl rfl (s_move rfl rfl) ?_
         refine r_d rfl rfl rfl (s_move rfl rfl) ?_
         refine r_d rfl rfl rfl (m_index (f := enc_S_api_Fire) h_a2 rfl el_L_api_Fire rfl (asl rfl) rfl hq2 sz_S_api_Fire rfl) ?_
         refine r_d rfl rfl rfl (s_fieldAddr rfl fl_api_Fire_1 rfl rfl rfl rfl) ?_
         refine r_d rfl rfl rfl (s_load rfl rfl (by exact ty_L_int) rfl) ?_
         refine r_d rfl rfl rfl (m_len (f := (D.int .i64)) q_7.f1_IDs rfl el_L_int rfl (asl rfl)) ?_
         refine r_d rfl rfl rfl (s_cmp rfl rfl rfl rfl) ?_
         refine r_end ?_
         refine g_sB 62 rfl hr (fun h62_7 hr => ?_) (fun h62_7 hr => ?_)
         ·
          refine g_condT rfl ?_
          refine g_seq ?_
          refine g_run (by kernel_rfl) [(0, .d)] rfl ?_
          refine r_d rfl rfl rfl (s_assign rfl rfl) ?_
          refine r_end ?_
          obtain rfl := Option.some.inj hr
          refine g_ret Tryz.func57 _ (.cons (resTmp rfl (Wk.refl _)) .nil) ?_
          rfl
         ·
          refine g_condF rfl ?_
          refine g_skip ?_
          refine g_inBlock ?_
          refine g_run (by kernel_rfl) [(0, .d), (1, .d), (2, .d)] rfl ?_
          refine r_d rfl rfl rfl (s_move rfl rfl) ?_
          refine r_d rfl rfl rfl (s_ar (r := ((i_6 + 1 : Nat) : Int)) rfl rfl rfl (by simp [iar]) (by omega)) ?_
          refine r_d rfl rfl rfl (s_assign rfl rfl) ?_
          refine r_end ?_
          refine g_sub [(2, .lst (h_a2.map enc_S_api_Fire)), (9, .int .i64 ((i_6 + 1 : Nat) : Int))] (Sub.cons' rfl (Sub.cons' rfl (Sub.nil _))) ?_
          exact IH2 _ _ _ (by omega) ⟨(i_6 + 1), rfl, rfl, rfl, (by omega), hr⟩
      ·
       refine g_sub [(1, .lst (b_a1.map encP)), (2, .lst (h_a2.map enc_S_api_Fire)), (8, .int .i64 ((0 : Nat) : Int))] (Sub.cons' rfl (Sub.cons' rfl (Sub.cons' rfl (Sub.nil _)))) ?_
       refine g_loop (fun n env σ => ∃ (i_5 : Nat), (n = b_a1.length - i_5) ∧ (env = [(1, .lst (b_a1.map encP)), (2, .lst (h_a2.map enc_S_api_Fire)), (8, .int .i64 (i_5 : Int))]) ∧ (σ = []) ∧ (i_5 ≤ b_a1.length) ∧ (lf_constraintlaw23_Parts_L1 kk1 (b_a1.drop i_5) = some res)) _ ⟨0, rfl, rfl, rfl, Nat.zero_le _, hr⟩ ?_
       rintro n _ _ ⟨i_5, rfl, rfl, rfl, hi1, hr⟩ IH1
       rcases listStep b_a1 i_5 hi1 with ⟨ht1, hd1, he1⟩ | ⟨q_9, ht1, hd1, hq1, hlt1⟩
       ·
        rw [hd1, lf_constraintlaw23_Parts_L1] at hr
        refine g_seq ?_
        refine g_seq ?_
        refine g_run (by kernel_rfl) [(0, .d), (1, .d), (2, .d), (3, .d)] rfl ?_
        refine r_d rfl rfl rfl (s_move rfl rfl) ?_
        refine r_d rfl rfl rfl (s_move rfl rfl) ?_
        refine r_d rfl rfl rfl (m_len (f := encP) b_a1 rfl el_api_Binds rfl (asl rfl)) ?_
        refine r_d rfl rfl rfl (s_cmp rfl rfl rfl rfl) ?_
        refine r_end ?_
        refine g_known 40 false rfl ht1 ?_
        refine g_condF rfl ?_
        refine g_exit rfl ?_
        refine g_sub [(2, .lst (h_a2.map enc_S_api_Fire))] (Sub.cons' rfl (Sub.nil _)) ?_
        exact HK1 _ _ ⟨rfl, rfl, hr⟩
       ·
        rw [hd1, lf_constraintlaw23_Parts_L1] at hr
        refine g_seq ?_
        refine g_seq ?_
        refine g_run (by kernel_rfl) [(0, .d), (1, .d), (2, .d), (3, .d)] rfl ?_
        refine r_d rfl rfl rfl (s_move rfl rfl) ?_
        refine r_d rfl rfl rfl (s_move rfl rfl) ?_
        refine r_d rfl rfl rfl (m_len (f := encP) b_a1 rfl el_api_Binds rfl (asl rfl)) ?_
        refine r_d rfl rfl rfl (s_cmp rfl rfl rfl rfl) ?_
        refine r_end ?_
        refine g_known 40 true rfl ht1 ?_
        refine g_condT rfl ?_
        refine g_skip ?_
        refine g_seq ?_
        refine g_block ?_
        refine g_seq ?_
        refine g_run (by kernel_rfl) [(0, .d), (1, .d), (2, .d), (3, .d), (4, .d), (5, .d), (6, .d)] rfl ?_
        refine r_d rfl rfl rfl (s_move rfl rfl) ?_
        refine r_d rfl rfl rfl (s_move rfl rfl) ?_
        refine r_d rfl rfl rfl (m_index (f := encP) b_a1 rfl el_api_Binds rfl (asl rfl) rfl hq1 sz_encP rfl) ?_
        refine r_d rfl rfl rfl (s_fieldAddr rfl fl_api_Bind_1 rfl rfl rfl rfl) ?_
        refine r_d rfl rfl rfl (s_load rfl rfl (by exact ty_api_Term) (sz_encT _)) ?_
        obtain ⟨r_10, hr_10, hr⟩ := bindS hr
        refine r_d rfl rfl rfl (s_callD rfl cl_constraintref03_Size (.cons rfl (Wk.refl _) .nil) (lx_constraintref03_Size _ _ hr_10)) ?_
        refine r_d rfl rfl rfl (s_cmp rfl rfl rfl rfl) ?_
        refine r_end ?_
        refine g_sB 49 rfl hr (fun h49_10 hr => ?_) (fun h49_10 hr => ?_)
        ·
         refine g_condT rfl ?_
         refine g_seq ?_
         refine g_run (by kernel_rfl) [(0, .d)] rfl ?_
         refine r_d rfl rfl rfl (s_assign rfl rfl) ?_
         refine r_end ?_
         obtain rfl := Option.some.inj hr
         refine g_ret Tryz.func57 _ (.cons (resTmp rfl (Wk.refl _)) .nil) ?_
         rfl
        ·
         refine g_condF rfl ?_
         refine g_skip ?_
         refine g_inBlock ?_
         refine g_run (by kernel_rfl) [(0, .d), (1, .d), (2, .d)] rfl ?_
         refine r_d rfl rfl rfl (s_move rfl rfl) ?_
         refine r_d rfl rfl rfl (s_ar (r := ((i_5 + 1 : Nat) : Int)) rfl rfl rfl (by simp [iar]) (by omega)) ?_
         refine r_d rfl rfl rfl (s_assign rfl rfl) ?_
         refine r_end ?_
         refine g_sub [(1, .lst (b_a1.map encP)), (2, .lst (h_a2.map enc_S_api_Fire)), (8, .int .i64 ((i_5 + 1 : Nat) : Int))] (Sub.cons' rfl (Sub.cons' rfl (Sub.cons' rfl (Sub.nil _)))) ?_
         exact IH1 _ _ _ (by omega) ⟨(i_5 + 1), rfl, rfl, rfl, (by omega), hr⟩
     ·
      refine g_sub [(0, .lst (l_a0.map encIt)), (1, .lst (b_a1.map encP)), (2, .lst (h_a2.map enc_S_api_Fire)), (7, .int .i64 ((0 : Nat) : Int))] (Sub.cons' rfl (Sub.cons' rfl (Sub.cons' rfl (Sub.cons' rfl (Sub.nil _))))) ?_
      refine g_loop (fun n env σ => ∃ (i_4 : Nat), (n = l_a0.length - i_4) ∧ (env = [(0, .lst (l_a0.map encIt)), (1, .lst (b_a1.map encP)), (2, .lst (h_a2.map enc_S_api_Fire)), (7, .int .i64 (i_4 : Int))]) ∧ (σ = []) ∧ (i_4 ≤ l_a0.length) ∧ (lf_constraintlaw23_Parts_L0 kk0 (l_a0.drop i_4) = some res)) _ ⟨0, rfl, rfl, rfl, Nat.zero_le _, hr⟩ ?_
      rintro n _ _ ⟨i_4, rfl, rfl, rfl, hi0, hr⟩ IH0
      rcases listStep l_a0 i_4 hi0 with ⟨ht0, hd0, he0⟩ | ⟨q_12, ht0, hd0, hq0, hlt0⟩
      ·
       rw [hd0, lf_constraintlaw23_Parts_L0] at hr
       refine g_seq ?_
       refine g_seq ?_
       refine g_run (by kernel_rfl) [(0, .d), (1, .d), (2, .d), (3, .d)] rfl ?_
       refine r_d rfl rfl rfl (s_move rfl rfl) ?_
       refine r_d rfl rfl rfl (s_move rfl rfl) ?_
       refine r_d rfl rfl rfl (m_len (f := encIt) l_a0 rfl el_L_api_Item rfl (asl rfl)) ?_
       refine r_d rfl rfl rfl (s_cmp rfl rfl rfl rfl) ?_
       refine r_end ?_
       refine g_known 26 false rfl ht0 ?_
       refine g_condF rfl ?_
       refine g_exit rfl ?_
       refine g_sub [(1, .lst (b_a1.map encP)), (2, .lst (h_a2.map enc_S_api_Fire))] (Sub.cons' rfl (Sub.cons' rfl (Sub.nil _))) ?_
       exact HK0 _ _ ⟨rfl, rfl, hr⟩
      ·
       rw [hd0, lf_constraintlaw23_Parts_L0] at hr
       refine g_seq ?_
       refine g_seq ?_
       refine g_run (by kernel_rfl) [(0, .d), (1, .d), (2, .d), (3, .d)] rfl ?_
       refine r_d rfl rfl rfl (s_move rfl rfl) ?_
       refine r_d rfl rfl rfl (s_move rfl rfl) ?_
       refine r_d rfl rfl rfl (m_len (f := encIt) l_a0 rfl el_L_api_Item rfl (asl rfl)) ?_
       refine r_d rfl rfl rfl (s_cmp rfl rfl rfl rfl) ?_
       refine r_end ?_
       refine g_known 26 true rfl ht0 ?_
       refine g_condT rfl ?_
       refine g_skip ?_
       refine g_seq ?_
       refine g_block ?_
       refine g_seq ?_
       refine g_run (by kernel_rfl) [(0, .d), (1, .d), (2, .d), (3, .d), (4, .d), (5, .d), (6, .d), (7, .d)] rfl ?_
       refine r_d rfl rfl rfl (s_move rfl rfl) ?_
       refine r_d rfl rfl rfl (s_move rfl rfl) ?_
       refine r_d rfl rfl rfl (m_index (f := encIt) l_a0 rfl el_L_api_Item rfl (asl rfl) rfl hq0 sz_encIt rfl) ?_
       refine r_d rfl rfl rfl (s_fieldAddr rfl fl_api_Item_1 rfl rfl rfl rfl) ?_
       refine r_d rfl rfl rfl (s_fieldAddr rfl fl_api_Atom_1 rfl rfl rfl rfl) ?_
       refine r_d rfl rfl rfl (s_load rfl rfl (by exact ty_L_api_Term) rfl) ?_
       obtain ⟨r_13, hr_13, hr⟩ := bindS hr
       refine r_d rfl rfl rfl (s_callD rfl cl_constraintlaw23_tiny (.cons rfl (Wk.refl _) .nil) (lg_constraintlaw23_tiny _ _ hr_13)) ?_
       refine r_d rfl rfl rfl (s_not rfl rfl) ?_
       refine r_end ?_
       refine g_sB 36 rfl hr (fun h36_13 hr => ?_) (fun h36_13 hr => ?_)
       ·
        refine g_condT rfl ?_
        refine g_seq ?_
        refine g_run (by kernel_rfl) [(0, .d)] rfl ?_
        refine r_d rfl rfl rfl (s_assign rfl rfl) ?_
        refine r_end ?_
        obtain rfl := Option.some.inj hr
        refine g_ret Tryz.func57 _ (.cons (resTmp rfl (Wk.refl _)) .nil) ?_
        rfl
       ·
        refine g_condF rfl ?_
        refine g_skip ?_
        refine g_inBlock ?_
        refine g_run (by kernel_rfl) [(0, .d), (1, .d), (2, .d)] rfl ?_
        refine r_d rfl rfl rfl (s_move rfl rfl) ?_
        refine r_d rfl rfl rfl (s_ar (r := ((i_4 + 1 : Nat) : Int)) rfl rfl rfl (by simp [iar]) (by omega)) ?_
        refine r_d rfl rfl rfl (s_assign rfl rfl) ?_
        refine r_end ?_
        refine g_sub [(0, .lst (l_a0.map encIt)), (1, .lst (b_a1.map encP)), (2, .lst (h_a2.map enc_S_api_Fire)), (7, .int .i64 ((i_4 + 1 : Nat) : Int))] (Sub.cons' rfl (Sub.cons' rfl (Sub.cons' rfl (Sub.cons' rfl (Sub.nil _))))) ?_
        exact IH0 _ _ _ (by omega) ⟨(i_4 + 1), rfl, rfl, rfl, (by omega), hr⟩

set_option maxHeartbeats 1000000 in
theorem lg_constraintlaw52_small (c_a0 : S_api_Config) (res : Bool) (hr : lf_constraintlaw52_small c_a0 = some res) : Gives Tryz.prog 16 [enc_S_api_Config c_a0] (.bool res) := by
  unfold lf_constraintlaw52_small at hr
  refine spec_env [(0, enc_S_api_Config c_a0)] Tryz.func16 rfl rfl fun K hK => ?_
  refine g_seq ?_
  refine g_run (by kernel_rfl) [(0, .d), (1, .d)] rfl ?_
  refine r_d rfl rfl rfl (s_box rfl rfl rfl) ?_
  refine r_d rfl rfl rfl (s_assign rfl rfl) ?_
  refine r_end ?_
  refine g_seq ?_
  refine g_run (by kernel_rfl) [(0, .d), (1, .d), (2, .d), (3, .d), (4, .d), (5, .d), (6, .d), (7, .d), (8, .d), (9, .d), (10, .d), (11, .d), (12, .d), (13, .d), (14, .d), (15, .d), (16, .d), (17, .d), (18, .d), (19, .d)] rfl ?_
  refine r_d rfl rfl rfl (s_fieldAddr rfl fl_api_Config_0 rfl rfl rfl rfl) ?_
  refine r_d rfl rfl rfl (s_load rfl rfl (by exact ty_L_api_Frame) rfl) ?_
  refine r_d rfl rfl rfl (m_len (f := enc_S_api_Frame) c_a0.f0_Stack rfl el_L_api_Frame rfl (asl rfl)) ?_
  refine r_d rfl rfl rfl (s_cmp rfl rfl rfl rfl) ?_
  refine r_d rfl rfl rfl (s_move rfl rfl) ?_
  refine r_sB 7 rfl hr (fun h7_0 hr => ?_) (fun h7_0 hr => ?_)
  ·
   refine r_d rfl rfl rfl (s_fieldAddr rfl fl_api_Config_0 rfl rfl rfl rfl) ?_
   refine r_d rfl rfl rfl (s_load rfl rfl (by exact ty_L_api_Frame) rfl) ?_
   obtain ⟨r_2, hr_2, hr⟩ := bindS hr
   refine r_d rfl rfl rfl (s_callD rfl cl_constraintlaw52_goals (.cons rfl (Wk.refl _) .nil) (lg_constraintlaw52_goals _ _ hr_2)) ?_
   obtain ⟨r_3, hr_3, hr⟩ := bindS hr
   refine r_d rfl rfl rfl (s_callD rfl cl_constraintlaw23_Goals (.cons rfl (Wk.refl _) (.cons rfl (Wk.refl _) .nil)) (lg_constraintlaw23_Goals _ _ _ hr_3)) ?_
   refine r_d rfl rfl rfl (s_pickT rfl rfl rfl) ?_
   refine r_d rfl rfl rfl (s_move rfl rfl) ?_
   refine r_sB 13 rfl hr (fun h13_3 hr => ?_) (fun h13_3 hr => ?_)
   ·
    refine r_d rfl rfl rfl (s_fieldAddr rfl fl_api_Config_1 rfl rfl rfl rfl) ?_
    refine r_d rfl rfl rfl (s_load rfl rfl (by exact ty_L_api_Item) rfl) ?_
    refine r_d rfl rfl rfl (s_fieldAddr rfl fl_api_Config_2 rfl rfl rfl rfl) ?_
    refine r_d rfl rfl rfl (s_load rfl rfl (by exact ty_api_Binds) rfl) ?_
    refine r_d rfl rfl rfl (s_fieldAddr rfl fl_api_Config_3 rfl rfl rfl rfl) ?_
    refine r_d rfl rfl rfl (s_load rfl rfl (by exact ty_L_api_Fire) rfl) ?_
    obtain ⟨r_5, hr_5, hr⟩ := bindS hr
    refine r_d rfl rfl rfl (s_callD rfl cl_constraintlaw23_Parts (.cons rfl (Wk.refl _) (.cons rfl (Wk.refl _) (.cons rfl (Wk.refl _) .nil))) (lg_constraintlaw23_Parts _ _ _ _ hr_5)) ?_
    refine r_d rfl rfl rfl (s_pickT rfl rfl rfl) ?_
    refine r_d rfl rfl rfl (s_assign rfl rfl) ?_
    refine r_end ?_
    obtain rfl := Option.some.inj hr
    refine g_ret Tryz.func16 _ (.cons (resTmp rfl (Wk.refl _)) .nil) ?_
    rfl
   ·
    refine r_skip rfl rfl rfl ?_
    refine r_skip rfl rfl rfl ?_
    refine r_skip rfl rfl rfl ?_
    refine r_skip rfl rfl rfl ?_
    refine r_skip rfl rfl rfl ?_
    refine r_skip rfl rfl rfl ?_
    refine r_skip rfl rfl rfl ?_
    refine r_d rfl rfl rfl (s_pickF rfl rfl rfl) ?_
    refine r_d rfl rfl rfl (s_assign rfl rfl) ?_
    refine r_end ?_
    obtain rfl := Option.some.inj hr
    refine g_ret Tryz.func16 _ (.cons (resTmp rfl (Wk.refl _)) .nil) ?_
    rfl
  ·
   refine r_skip rfl rfl rfl ?_
   refine r_skip rfl rfl rfl ?_
   refine r_skip rfl rfl rfl ?_
   refine r_skip rfl rfl rfl ?_
   refine r_d rfl rfl rfl (s_pickF rfl rfl rfl) ?_
   refine r_d rfl rfl rfl (s_move rfl rfl) ?_
   refine r_skip rfl rfl rfl ?_
   refine r_skip rfl rfl rfl ?_
   refine r_skip rfl rfl rfl ?_
   refine r_skip rfl rfl rfl ?_
   refine r_skip rfl rfl rfl ?_
   refine r_skip rfl rfl rfl ?_
   refine r_skip rfl rfl rfl ?_
   refine r_d rfl rfl rfl (s_pickF rfl rfl rfl) ?_
   refine r_d rfl rfl rfl (s_assign rfl rfl) ?_
   refine r_end ?_
   obtain rfl := Option.some.inj hr
   refine g_ret Tryz.func16 _ (.cons (resTmp rfl (Wk.refl _)) .nil) ?_
   rfl

noncomputable def lf_constraintref26_sameFrames_L0 (k : Option (Bool)) (b_a1 : (List S_api_Frame)) : List S_api_Frame → Nat → Option (Bool)
  | [], i_2 =>
  k
  | q_3 :: rest, i_2 =>
  ((getI b_a1 (i_2 : Int)).bind fun q_4 =>
  (bif (q_3.f1_ID != q_4.f1_ID) then
  some (false)
  else
  (bif (q_3.f2_Occ != q_4.f2_Occ) then
  some (false)
  else
  ((x_sameG q_3.f0_Goal q_4.f0_Goal).bind fun r_7 =>
  (bif (!r_7) then
  some (false)
  else
  (lf_constraintref26_sameFrames_L0 k b_a1 rest (i_2 + 1)))))))
noncomputable def lf_constraintref26_sameFrames (a_a0 : (List S_api_Frame)) (b_a1 : (List S_api_Frame)) : Option (Bool) :=
  (bif ((a_a0.length : Int) != (b_a1.length : Int)) then
  some (false)
  else
  (lf_constraintref26_sameFrames_L0 (some (true)) b_a1 a_a0 0))

set_option maxHeartbeats 1000000 in
theorem lg_constraintref26_sameFrames (a_a0 : (List S_api_Frame)) (b_a1 : (List S_api_Frame)) (res : Bool) (hr : lf_constraintref26_sameFrames a_a0 b_a1 = some res) : Gives Tryz.prog 89 [.lst (a_a0.map enc_S_api_Frame), .lst (b_a1.map enc_S_api_Frame)] (.bool res) := by
  unfold lf_constraintref26_sameFrames at hr
  refine spec_env [(0, .lst (a_a0.map enc_S_api_Frame)), (1, .lst (b_a1.map enc_S_api_Frame))] Tryz.func89 rfl rfl fun K hK => ?_
  refine g_seq ?_
  refine g_run (by kernel_rfl) [(0, .d)] rfl ?_
  refine r_d rfl rfl rfl (s_assign rfl rfl) ?_
  refine r_end ?_
  refine g_seq ?_
  refine g_seq ?_
  refine g_run (by kernel_rfl) [(0, .d), (1, .d), (2, .d), (3, .d), (4, .d)] rfl ?_
  refine r_d rfl rfl rfl (s_move rfl rfl) ?_
  refine r_d rfl rfl rfl (m_len (f := enc_S_api_Frame) a_a0 rfl el_L_api_Frame rfl (asl rfl)) ?_
  refine r_d rfl rfl rfl (s_move rfl rfl) ?_
  refine r_d rfl rfl rfl (m_len (f := enc_S_api_Frame) b_a1 rfl el_L_api_Frame rfl (asl rfl)) ?_
  refine r_d rfl rfl rfl (s_cmp rfl rfl rfl rfl) ?_
  refine r_end ?_
  refine g_sB 10 rfl hr (fun h10_0 hr => ?_) (fun h10_0 hr => ?_)
  ·
   refine g_condT rfl ?_
   refine g_seq ?_
   refine g_run (by kernel_rfl) [(0, .d)] rfl ?_
   refine r_d rfl rfl rfl (s_assign rfl rfl) ?_
   refine r_end ?_
   obtain rfl := Option.some.inj hr
   refine g_ret Tryz.func89 _ (.cons (resTmp rfl (Wk.refl _)) .nil) ?_
   rfl
  ·
   refine g_condF rfl ?_
   refine g_skip ?_
   refine g_seq ?_
   refine g_seq ?_
   refine g_run (by kernel_rfl) [(0, .d)] rfl ?_
   refine r_d rfl rfl rfl (s_assign rfl rfl) ?_
   refine r_end ?_
   obtain ⟨kk0, hkk0, hr⟩ := exK (fun k => lf_constraintref26_sameFrames_L0 k b_a1 a_a0 0) hr
   refine g_len 0 rfl (asl rfl) fun hla0 => ?_
   simp only [List.length_map] at hla0
   refine g_blockJ (fun env σ => env = [] ∧ σ = [] ∧ kk0 = some res) ?_ (fun HK0 => ?_)
   ·
    rintro _ _ ⟨rfl, rfl, hr⟩
    rw [hkk0] at hr
    refine g_seq ?_
    refine g_run (by kernel_rfl) [(0, .d)] rfl ?_
    refine r_d rfl rfl rfl (s_assign rfl rfl) ?_
    refine r_end ?_
    obtain rfl := Option.some.inj hr
    refine g_ret Tryz.func89 _ (.cons (resTmp rfl (Wk.refl _)) .nil) ?_
    rfl
   ·
    refine g_sub [(0, .lst (a_a0.map enc_S_api_Frame)), (1, .lst (b_a1.map enc_S_api_Frame)), (5, .int .i64 ((0 : Nat) : Int))] (Sub.cons' rfl (Sub.cons' rfl (Sub.cons' rfl (Sub.nil _)))) ?_
    refine g_loop (fun n env σ => ∃ (i_2 : Nat), (n = a_a0.length - i_2) ∧ (env = [(0, .lst (a_a0.map enc_S_api_Frame)), (1, .lst (b_a1.map enc_S_api_Frame)), (5, .int .i64 (i_2 : Int))]) ∧ (σ = []) ∧ (i_2 ≤ a_a0.length) ∧ (lf_constraintref26_sameFrames_L0 kk0 b_a1 (a_a0.drop i_2) i_2 = some res)) _ ⟨0, rfl, rfl, rfl, Nat.zero_le _, hr⟩ ?_
    rintro n _ _ ⟨i_2, rfl, rfl, rfl, hi0, hr⟩ IH0
    rcases listStep a_a0 i_2 hi0 with ⟨ht0, hd0, he0⟩ | ⟨q_3, ht0, hd0, hq0, hlt0⟩
    ·
     rw [hd0, lf_constraintref26_sameFrames_L0] at hr
     refine g_seq ?_
     refine g_seq ?_
     refine g_run (by kernel_rfl) [(0, .d), (1, .d), (2, .d), (3, .d)] rfl ?_
     refine r_d rfl rfl rfl (s_move rfl rfl) ?_
     refine r_d rfl rfl rfl (s_move rfl rfl) ?_
     refine r_d rfl rfl rfl (m_len (f := enc_S_api_Frame) a_a0 rfl el_L_api_Frame rfl (asl rfl)) ?_
     refine r_d rfl rfl rfl (s_cmp rfl rfl rfl rfl) ?_
     refine r_end ?_
     refine g_known 14 false rfl ht0 ?_
     refine g_condF rfl ?_
     refine g_exit rfl ?_
     refine g_sub [] (Sub.nil _) ?_
     exact HK0 _ _ ⟨rfl, rfl, hr⟩
    ·
     rw [hd0, lf_constraintref26_sameFrames_L0] at hr
     refine g_seq ?_
     refine g_seq ?_
     refine g_run (by kernel_rfl) [(0, .d), (1, .d), (2, .d), (3, .d)] rfl ?_
     refine r_d rfl rfl rfl (s_move rfl rfl) ?_
     refine r_d rfl rfl rfl (s_move rfl rfl) ?_
     refine r_d rfl rfl rfl (m_len (f := enc_S_api_Frame) a_a0 rfl el_L_api_Frame rfl (asl rfl)) ?_
     refine r_d rfl rfl rfl (s_cmp rfl rfl rfl rfl) ?_
     refine r_end ?_
     refine g_known 14 true rfl ht0 ?_
     refine g_condT rfl ?_
     refine g_skip ?_
     refine g_seq ?_
     refine g_block ?_
     refine g_seq ?_
     refine g_any (by kernel_rfl) (by kernel_rfl) [(0, .d), (1, .d), (2, .d), (3, .d), (4, .d), (5, .d), (6, .d), (7, .d), (8, .d), (9, .d), (10, .d), (11, .d), (12, .d), (13, .d), (14, .d), (15, .d), (16, .d), (17, .d), (18, .d), (19, .d), (20, .d), (21, .d), (22, .d), (23, .d), (24, .d), (25, .d), (26, .d), (27, .d), (28, .d), (29, .d), (30, .d), (31, .d), (32, .d), (33, .d), (34, .d), (35, .d), (36, .d), (37, .d)] (by kernel_rfl) ?_
     refine r_d rfl rfl rfl (s_move rfl rfl) ?_
     refine r_d rfl rfl rfl (s_move rfl rfl) ?_
     refine r_d rfl rfl rfl (m_index (f := enc_S_api_Frame) a_a0 rfl el_L_api_Frame rfl (asl rfl) rfl hq0 sz_S_api_Frame rfl) ?_
     refine r_d rfl rfl rfl (s_fieldAddr rfl fl_api_Frame_1 rfl rfl (by simp [szs, sz, sz_encG]) rfl) ?_
     refine r_d rfl rfl rfl (s_load rfl rfl (by exact ty_int) rfl) ?_
     refine r_d rfl rfl rfl (s_move rfl rfl) ?_
     refine r_d rfl rfl rfl (s_move rfl rfl) ?_
     obtain ⟨q_4, hq_4, hr⟩ := bindS hr
     refine r_d rfl rfl rfl (m_index (f := enc_S_api_Frame) b_a1 rfl el_L_api_Frame rfl (asl rfl) rfl hq_4 sz_S_api_Frame rfl) ?_
     refine r_d rfl rfl rfl (s_fieldAddr rfl fl_api_Frame_1 rfl rfl (by simp [szs, sz, sz_encG]) rfl) ?_
     refine r_d rfl rfl rfl (s_load rfl rfl (by exact ty_int) rfl) ?_
     refine r_d rfl rfl rfl (s_cmp rfl rfl rfl rfl) ?_
     refine r_d rfl rfl rfl (s_move rfl rfl) ?_
     refine r_sB 28 rfl hr (fun h28_4 hr => ?_) (fun h28_4 hr => ?_)
     ·
      refine r_skip rfl rfl rfl ?_
      refine r_skip rfl rfl rfl ?_
      refine r_skip rfl rfl rfl ?_
      refine r_skip rfl rfl rfl ?_
      refine r_skip rfl rfl rfl ?_
      refine r_skip rfl rfl rfl ?_
      refine r_skip rfl rfl rfl ?_
      refine r_skip rfl rfl rfl ?_
      refine r_skip rfl rfl rfl ?_
      refine r_skip rfl rfl rfl ?_
      refine r_skip rfl rfl rfl ?_
      refine r_d rfl rfl rfl (s_pickT rfl rfl rfl) ?_
      refine r_d rfl rfl rfl (s_move rfl rfl) ?_
      refine r_skip rfl rfl rfl ?_
      refine r_skip rfl rfl rfl ?_
      refine r_skip rfl rfl rfl ?_
      refine r_skip rfl rfl rfl ?_
      refine r_skip rfl rfl rfl ?_
      refine r_skip rfl rfl rfl ?_
      refine r_skip rfl rfl rfl ?_
      refine r_skip rfl rfl rfl ?_
      refine r_skip rfl rfl rfl ?_
      refine r_skip rfl rfl rfl ?_
      refine r_skip rfl rfl rfl ?_
      refine r_skip rfl rfl rfl ?_
      refine r_d rfl rfl rfl (s_pickT rfl rfl rfl) ?_
      refine r_end ?_
      refine g_condT rfl ?_
      refine g_seq ?_
      refine g_run (by kernel_rfl) [(0, .d)] rfl ?_
      refine r_d rfl rfl rfl (s_assign rfl rfl) ?_
      refine r_end ?_
      obtain rfl := Option.some.inj hr
      refine g_ret Tryz.func89 _ (.cons (resTmp rfl (Wk.refl _)) .nil) ?_
      rfl
     ·
      refine r_d rfl rfl rfl (s_move rfl rfl) ?_
      refine r_d rfl rfl rfl (s_move rfl rfl) ?_
      refine r_d rfl rfl rfl (m_index (f := enc_S_api_Frame) a_a0 rfl el_L_api_Frame rfl (asl rfl) rfl hq0 sz_S_api_Frame rfl) ?_
      refine r_d rfl rfl rfl (s_fieldAddr rfl fl_api_Frame_2 rfl rfl (by simp [szs, sz, sz_encG]) rfl) ?_
      refine r_d rfl rfl rfl (s_load rfl rfl (by exact ty_int) rfl) ?_
      refine r_d rfl rfl rfl (s_move rfl rfl) ?_
      refine r_d rfl rfl rfl (s_move rfl rfl) ?_
      refine r_d rfl rfl rfl (m_index (f := enc_S_api_Frame) b_a1 rfl el_L_api_Frame rfl (asl rfl) rfl hq_4 sz_S_api_Frame rfl) ?_
      refine r_d rfl rfl rfl (s_fieldAddr rfl fl_api_Frame_2 rfl rfl (by simp [szs, sz, sz_encG]) rfl) ?_
      refine r_d rfl rfl rfl (s_load rfl rfl (by exact ty_int) rfl) ?_
      refine r_d rfl rfl rfl (s_cmp rfl rfl rfl rfl) ?_
      refine r_d rfl rfl rfl (s_pickF rfl rfl rfl) ?_
      refine r_d rfl rfl rfl (s_move rfl rfl) ?_
      refine r_sB 41 rfl hr (fun h41_5 hr => ?_) (fun h41_5 hr => ?_)
      ·
       refine r_skip rfl rfl rfl ?_
       refine r_skip rfl rfl rfl ?_
       refine r_skip rfl rfl rfl ?_
       refine r_skip rfl rfl rfl ?_
       refine r_skip rfl rfl rfl ?_
       refine r_skip rfl rfl rfl ?_
       refine r_skip rfl rfl rfl ?_
       refine r_skip rfl rfl rfl ?_
       refine r_skip rfl rfl rfl ?_
       refine r_skip rfl rfl rfl ?_
       refine r_skip rfl rfl rfl ?_
       refine r_skip rfl rfl rfl ?_
       refine r_d rfl rfl rfl (s_pickT rfl rfl rfl) ?_
       refine r_end ?_
       refine g_condT rfl ?_
       refine g_seq ?_
       refine g_run (by kernel_rfl) [(0, .d)] rfl ?_
       refine r_d rfl rfl rfl (s_assign rfl rfl) ?_
       refine r_end ?_
       obtain rfl := Option.some.inj hr
       refine g_ret Tryz.func89 _ (.cons (resTmp rfl (Wk.refl _)) .nil) ?_
       rfl
      ·
       refine r_d rfl rfl rfl (s_move rfl rfl) ?_
       refine r_d rfl rfl rfl (s_move rfl rfl) ?_
       refine r_d rfl rfl rfl (m_index (f := enc_S_api_Frame) a_a0 rfl el_L_api_Frame rfl (asl rfl) rfl hq0 sz_S_api_Frame rfl) ?_
       refine r_d rfl rfl rfl (s_fieldAddr rfl fl_api_Frame_0 rfl rfl rfl rfl) ?_
       refine r_d rfl rfl rfl (s_load rfl rfl (by exact ty_api_Goal) (sz_encG _)) ?_
       refine r_d rfl rfl rfl (s_move rfl rfl) ?_
       refine r_d rfl rfl rfl (s_move rfl rfl) ?_
       refine r_d rfl rfl rfl (m_index (f := enc_S_api_Frame) b_a1 rfl el_L_api_Frame rfl (asl rfl) rfl hq_4 sz_S_api_Frame rfl) ?_
       refine r_d rfl rfl rfl (s_fieldAddr rfl fl_api_Frame_0 rfl rfl rfl rfl) ?_
       refine r_d rfl rfl rfl (s_load rfl rfl (by exact ty_api_Goal) (sz_encG _)) ?_
       obtain ⟨r_7, hr_7, hr⟩ := bindS hr
       refine r_d rfl rfl rfl (s_callD rfl cl_constraintref03_SameGoal (.cons rfl (Wk.refl _) (.cons rfl (Wk.refl _) .nil)) (lx_constraintref03_SameGoal _ _ _ hr_7)) ?_
       refine r_d rfl rfl rfl (s_not rfl rfl) ?_
       refine r_d rfl rfl rfl (s_pickF rfl rfl rfl) ?_
       refine r_end ?_
       refine g_sB 54 rfl hr (fun h54_7 hr => ?_) (fun h54_7 hr => ?_)
       ·
        refine g_condT rfl ?_
        refine g_seq ?_
        refine g_run (by kernel_rfl) [(0, .d)] rfl ?_
        refine r_d rfl rfl rfl (s_assign rfl rfl) ?_
        refine r_end ?_
        obtain rfl := Option.some.inj hr
        refine g_ret Tryz.func89 _ (.cons (resTmp rfl (Wk.refl _)) .nil) ?_
        rfl
       ·
        refine g_condF rfl ?_
        refine g_skip ?_
        refine g_inBlock ?_
        refine g_run (by kernel_rfl) [(0, .d), (1, .d), (2, .d)] rfl ?_
        refine r_d rfl rfl rfl (s_move rfl rfl) ?_
        refine r_d rfl rfl rfl (s_ar (r := ((i_2 + 1 : Nat) : Int)) rfl rfl rfl (by simp [iar]) (by omega)) ?_
        refine r_d rfl rfl rfl (s_assign rfl rfl) ?_
        refine r_end ?_
        refine g_sub [(0, .lst (a_a0.map enc_S_api_Frame)), (1, .lst (b_a1.map enc_S_api_Frame)), (5, .int .i64 ((i_2 + 1 : Nat) : Int))] (Sub.cons' rfl (Sub.cons' rfl (Sub.cons' rfl (Sub.nil _)))) ?_
        exact IH0 _ _ _ (by omega) ⟨(i_2 + 1), rfl, rfl, rfl, (by omega), hr⟩

noncomputable def lf_constraintref19_Same_L0 (k : Option (Bool)) (b_a1 : (List (Int × At))) : List (Int × At) → Nat → Option (Bool)
  | [], i_2 =>
  k
  | q_3 :: rest, i_2 =>
  ((getI b_a1 (i_2 : Int)).bind fun q_4 =>
  (bif (q_3.1 != q_4.1) then
  some (false)
  else
  ((x_sameA q_3.2 q_4.2).bind fun r_6 =>
  (bif (!r_6) then
  some (false)
  else
  (lf_constraintref19_Same_L0 k b_a1 rest (i_2 + 1))))))
noncomputable def lf_constraintref19_Same (a_a0 : (List (Int × At))) (b_a1 : (List (Int × At))) : Option (Bool) :=
  (bif ((a_a0.length : Int) != (b_a1.length : Int)) then
  some (false)
  else
  (lf_constraintref19_Same_L0 (some (true)) b_a1 a_a0 0))

set_option maxHeartbeats 1000000 in
theorem lg_constraintref19_Same (a_a0 : (List (Int × At))) (b_a1 : (List (Int × At))) (res : Bool) (hr : lf_constraintref19_Same a_a0 b_a1 = some res) : Gives Tryz.prog 90 [.lst (a_a0.map encIt), .lst (b_a1.map encIt)] (.bool res) := by
  unfold lf_constraintref19_Same at hr
  refine spec_env [(0, .lst (a_a0.map encIt)), (1, .lst (b_a1.map encIt))] Tryz.func90 rfl rfl fun K hK => ?_
  refine g_seq ?_
  refine g_run (by kernel_rfl) [(0, .d)] rfl ?_
  refine r_d rfl rfl rfl (s_assign rfl rfl) ?_
  refine r_end ?_
  refine g_seq ?_
  refine g_seq ?_
  refine g_run (by kernel_rfl) [(0, .d), (1, .d), (2, .d), (3, .d), (4, .d)] rfl ?_
  refine r_d rfl rfl rfl (s_move rfl rfl) ?_
  refine r_d rfl rfl rfl (m_len (f := encIt) a_a0 rfl el_L_api_Item rfl (asl rfl)) ?_
  refine r_d rfl rfl rfl (s_move rfl rfl) ?_
  refine r_d rfl rfl rfl (m_len (f := encIt) b_a1 rfl el_L_api_Item rfl (asl rfl)) ?_
  refine r_d rfl rfl rfl (s_cmp rfl rfl rfl rfl) ?_
  refine r_end ?_
  refine g_sB 10 rfl hr (fun h10_0 hr => ?_) (fun h10_0 hr => ?_)
  ·
   refine g_condT rfl ?_
   refine g_seq ?_
   refine g_run (by kernel_rfl) [(0, .d)] rfl ?_
   refine r_d rfl rfl rfl (s_assign rfl rfl) ?_
   refine r_end ?_
   obtain rfl := Option.some.inj hr
   refine g_ret Tryz.func90 _ (.cons (resTmp rfl (Wk.refl _)) .nil) ?_
   rfl
  ·
   refine g_condF rfl ?_
   refine g_skip ?_
   refine g_seq ?_
   refine g_seq ?_
   refine g_run (by kernel_rfl) [(0, .d)] rfl ?_
   refine r_d rfl rfl rfl (s_assign rfl rfl) ?_
   refine r_end ?_
   obtain ⟨kk0, hkk0, hr⟩ := exK (fun k => lf_constraintref19_Same_L0 k b_a1 a_a0 0) hr
   refine g_len 0 rfl (asl rfl) fun hla0 => ?_
   simp only [List.length_map] at hla0
   refine g_blockJ (fun env σ => env = [] ∧ σ = [] ∧ kk0 = some res) ?_ (fun HK0 => ?_)
   ·
    rintro _ _ ⟨rfl, rfl, hr⟩
    rw [hkk0] at hr
    refine g_seq ?_
    refine g_run (by kernel_rfl) [(0, .d)] rfl ?_
    refine r_d rfl rfl rfl (s_assign rfl rfl) ?_
    refine r_end ?_
    obtain rfl := Option.some.inj hr
    refine g_ret Tryz.func90 _ (.cons (resTmp rfl (Wk.refl _)) .nil) ?_
    rfl
   ·
    refine g_sub [(0, .lst (a_a0.map encIt)), (1, .lst (b_a1.map encIt)), (5, .int .i64 ((0 : Nat) : Int))] (Sub.cons' rfl (Sub.cons' rfl (Sub.cons' rfl (Sub.nil _)))) ?_
    refine g_loop (fun n env σ => ∃ (i_2 : Nat), (n = a_a0.length - i_2) ∧ (env = [(0, .lst (a_a0.map encIt)), (1, .lst (b_a1.map encIt)), (5, .int .i64 (i_2 : Int))]) ∧ (σ = []) ∧ (i_2 ≤ a_a0.length) ∧ (lf_constraintref19_Same_L0 kk0 b_a1 (a_a0.drop i_2) i_2 = some res)) _ ⟨0, rfl, rfl, rfl, Nat.zero_le _, hr⟩ ?_
    rintro n _ _ ⟨i_2, rfl, rfl, rfl, hi0, hr⟩ IH0
    rcases listStep a_a0 i_2 hi0 with ⟨ht0, hd0, he0⟩ | ⟨q_3, ht0, hd0, hq0, hlt0⟩
    ·
     rw [hd0, lf_constraintref19_Same_L0] at hr
     refine g_seq ?_
     refine g_seq ?_
     refine g_run (by kernel_rfl) [(0, .d), (1, .d), (2, .d), (3, .d)] rfl ?_
     refine r_d rfl rfl rfl (s_move rfl rfl) ?_
     refine r_d rfl rfl rfl (s_move rfl rfl) ?_
     refine r_d rfl rfl rfl (m_len (f := encIt) a_a0 rfl el_L_api_Item rfl (asl rfl)) ?_
     refine r_d rfl rfl rfl (s_cmp rfl rfl rfl rfl) ?_
     refine r_end ?_
     refine g_known 14 false rfl ht0 ?_
     refine g_condF rfl ?_
     refine g_exit rfl ?_
     refine g_sub [] (Sub.nil _) ?_
     exact HK0 _ _ ⟨rfl, rfl, hr⟩
    ·
     rw [hd0, lf_constraintref19_Same_L0] at hr
     refine g_seq ?_
     refine g_seq ?_
     refine g_run (by kernel_rfl) [(0, .d), (1, .d), (2, .d), (3, .d)] rfl ?_
     refine r_d rfl rfl rfl (s_move rfl rfl) ?_
     refine r_d rfl rfl rfl (s_move rfl rfl) ?_
     refine r_d rfl rfl rfl (m_len (f := encIt) a_a0 rfl el_L_api_Item rfl (asl rfl)) ?_
     refine r_d rfl rfl rfl (s_cmp rfl rfl rfl rfl) ?_
     refine r_end ?_
     refine g_known 14 true rfl ht0 ?_
     refine g_condT rfl ?_
     refine g_skip ?_
     refine g_seq ?_
     refine g_block ?_
     refine g_seq ?_
     refine g_any (by kernel_rfl) (by kernel_rfl) [(0, .d), (1, .d), (2, .d), (3, .d), (4, .d), (5, .d), (6, .d), (7, .d), (8, .d), (9, .d), (10, .d), (11, .d), (12, .d), (13, .d), (14, .d), (15, .d), (16, .d), (17, .d), (18, .d), (19, .d), (20, .d), (21, .d), (22, .d), (23, .d), (24, .d)] (by kernel_rfl) ?_
     refine r_d rfl rfl rfl (s_move rfl rfl) ?_
     refine r_d rfl rfl rfl (s_move rfl rfl) ?_
     refine r_d rfl rfl rfl (m_index (f := encIt) a_a0 rfl el_L_api_Item rfl (asl rfl) rfl hq0 sz_encIt rfl) ?_
     refine r_d rfl rfl rfl (s_fieldAddr rfl fl_api_Item_0 rfl rfl rfl rfl) ?_
     refine r_d rfl rfl rfl (s_load rfl rfl (by exact ty_int) rfl) ?_
     refine r_d rfl rfl rfl (s_move rfl rfl) ?_
     refine r_d rfl rfl rfl (s_move rfl rfl) ?_
     obtain ⟨q_4, hq_4, hr⟩ := bindS hr
     refine r_d rfl rfl rfl (m_index (f := encIt) b_a1 rfl el_L_api_Item rfl (asl rfl) rfl hq_4 sz_encIt rfl) ?_
     refine r_d rfl rfl rfl (s_fieldAddr rfl fl_api_Item_0 rfl rfl rfl rfl) ?_
     refine r_d rfl rfl rfl (s_load rfl rfl (by exact ty_int) rfl) ?_
     refine r_d rfl rfl rfl (s_cmp rfl rfl rfl rfl) ?_
     refine r_d rfl rfl rfl (s_move rfl rfl) ?_
     refine r_sB 28 rfl hr (fun h28_4 hr => ?_) (fun h28_4 hr => ?_)
     ·
      refine r_skip rfl rfl rfl ?_
      refine r_skip rfl rfl rfl ?_
      refine r_skip rfl rfl rfl ?_
      refine r_skip rfl rfl rfl ?_
      refine r_skip rfl rfl rfl ?_
      refine r_skip rfl rfl rfl ?_
      refine r_skip rfl rfl rfl ?_
      refine r_skip rfl rfl rfl ?_
      refine r_skip rfl rfl rfl ?_
      refine r_skip rfl rfl rfl ?_
      refine r_skip rfl rfl rfl ?_
      refine r_skip rfl rfl rfl ?_
      refine r_d rfl rfl rfl (s_pickT rfl rfl rfl) ?_
      refine r_end ?_
      refine g_condT rfl ?_
      refine g_seq ?_
      refine g_run (by kernel_rfl) [(0, .d)] rfl ?_
      refine r_d rfl rfl rfl (s_assign rfl rfl) ?_
      refine r_end ?_
      obtain rfl := Option.some.inj hr
      refine g_ret Tryz.func90 _ (.cons (resTmp rfl (Wk.refl _)) .nil) ?_
      rfl
     ·
      refine r_d rfl rfl rfl (s_move rfl rfl) ?_
      refine r_d rfl rfl rfl (s_move rfl rfl) ?_
      refine r_d rfl rfl rfl (m_index (f := encIt) a_a0 rfl el_L_api_Item rfl (asl rfl) rfl hq0 sz_encIt rfl) ?_
      refine r_d rfl rfl rfl (s_fieldAddr rfl fl_api_Item_1 rfl rfl rfl rfl) ?_
      refine r_d rfl rfl rfl (s_load rfl rfl (by exact ty_api_Atom) (sz_encA _)) ?_
      refine r_d rfl rfl rfl (s_move rfl rfl) ?_
      refine r_d rfl rfl rfl (s_move rfl rfl) ?_
      refine r_d rfl rfl rfl (m_index (f := encIt) b_a1 rfl el_L_api_Item rfl (asl rfl) rfl hq_4 sz_encIt rfl) ?_
      refine r_d rfl rfl rfl (s_fieldAddr rfl fl_api_Item_1 rfl rfl rfl rfl) ?_
      refine r_d rfl rfl rfl (s_load rfl rfl (by exact ty_api_Atom) (sz_encA _)) ?_
      obtain ⟨r_6, hr_6, hr⟩ := bindS hr
      refine r_d rfl rfl rfl (s_callD rfl cl_constraintref03_SameAtom (.cons rfl (Wk.refl _) (.cons rfl (Wk.refl _) .nil)) (lx_constraintref03_SameAtom _ _ _ hr_6)) ?_
      refine r_d rfl rfl rfl (s_not rfl rfl) ?_
      refine r_d rfl rfl rfl (s_pickF rfl rfl rfl) ?_
      refine r_end ?_
      refine g_sB 41 rfl hr (fun h41_6 hr => ?_) (fun h41_6 hr => ?_)
      ·
       refine g_condT rfl ?_
       refine g_seq ?_
       refine g_run (by kernel_rfl) [(0, .d)] rfl ?_
       refine r_d rfl rfl rfl (s_assign rfl rfl) ?_
       refine r_end ?_
       obtain rfl := Option.some.inj hr
       refine g_ret Tryz.func90 _ (.cons (resTmp rfl (Wk.refl _)) .nil) ?_
       rfl
      ·
       refine g_condF rfl ?_
       refine g_skip ?_
       refine g_inBlock ?_
       refine g_run (by kernel_rfl) [(0, .d), (1, .d), (2, .d)] rfl ?_
       refine r_d rfl rfl rfl (s_move rfl rfl) ?_
       refine r_d rfl rfl rfl (s_ar (r := ((i_2 + 1 : Nat) : Int)) rfl rfl rfl (by simp [iar]) (by omega)) ?_
       refine r_d rfl rfl rfl (s_assign rfl rfl) ?_
       refine r_end ?_
       refine g_sub [(0, .lst (a_a0.map encIt)), (1, .lst (b_a1.map encIt)), (5, .int .i64 ((i_2 + 1 : Nat) : Int))] (Sub.cons' rfl (Sub.cons' rfl (Sub.cons' rfl (Sub.nil _)))) ?_
       exact IH0 _ _ _ (by omega) ⟨(i_2 + 1), rfl, rfl, rfl, (by omega), hr⟩

noncomputable def lf_constraintref06_Same_L0 (k : Option (Bool)) (c_a1 : (List (Int × T))) : List (Int × T) → Nat → Option (Bool)
  | [], i_2 =>
  k
  | q_3 :: rest, i_2 =>
  (bif (decide ((i_2 : Int) < (c_a1.length : Int))) then
  ((getI c_a1 (i_2 : Int)).bind fun q_5 =>
  (bif (q_3.1 != q_5.1) then
  some (false)
  else
  ((x_sameT q_3.2 q_5.2).bind fun r_7 =>
  (bif (!r_7) then
  some (false)
  else
  (lf_constraintref06_Same_L0 k c_a1 rest (i_2 + 1))))))
  else
  k)
noncomputable def lf_constraintref06_Same (a_a0 : (List (Int × T))) (c_a1 : (List (Int × T))) : Option (Bool) :=
  (bif ((a_a0.length : Int) != (c_a1.length : Int)) then
  some (false)
  else
  (lf_constraintref06_Same_L0 (some (true)) c_a1 a_a0 0))

set_option maxHeartbeats 1000000 in
theorem lg_constraintref06_Same (a_a0 : (List (Int × T))) (c_a1 : (List (Int × T))) (res : Bool) (hr : lf_constraintref06_Same a_a0 c_a1 = some res) : Gives Tryz.prog 91 [.lst (a_a0.map encP), .lst (c_a1.map encP)] (.bool res) := by
  unfold lf_constraintref06_Same at hr
  refine spec_env [(0, .lst (a_a0.map encP)), (1, .lst (c_a1.map encP))] Tryz.func91 rfl rfl fun K hK => ?_
  refine g_seq ?_
  refine g_run (by kernel_rfl) [(0, .d)] rfl ?_
  refine r_d rfl rfl rfl (s_assign rfl rfl) ?_
  refine r_end ?_
  refine g_seq ?_
  refine g_seq ?_
  refine g_run (by kernel_rfl) [(0, .d), (1, .d), (2, .d), (3, .d), (4, .d)] rfl ?_
  refine r_d rfl rfl rfl (s_move rfl rfl) ?_
  refine r_d rfl rfl rfl (m_len (f := encP) a_a0 rfl el_api_Binds rfl (asl rfl)) ?_
  refine r_d rfl rfl rfl (s_move rfl rfl) ?_
  refine r_d rfl rfl rfl (m_len (f := encP) c_a1 rfl el_api_Binds rfl (asl rfl)) ?_
  refine r_d rfl rfl rfl (s_cmp rfl rfl rfl rfl) ?_
  refine r_end ?_
  refine g_sB 10 rfl hr (fun h10_0 hr => ?_) (fun h10_0 hr => ?_)
  ·
   refine g_condT rfl ?_
   refine g_seq ?_
   refine g_run (by kernel_rfl) [(0, .d)] rfl ?_
   refine r_d rfl rfl rfl (s_assign rfl rfl) ?_
   refine r_end ?_
   obtain rfl := Option.some.inj hr
   refine g_ret Tryz.func91 _ (.cons (resTmp rfl (Wk.refl _)) .nil) ?_
   rfl
  ·
   refine g_condF rfl ?_
   refine g_skip ?_
   refine g_seq ?_
   refine g_seq ?_
   refine g_run (by kernel_rfl) [(0, .d)] rfl ?_
   refine r_d rfl rfl rfl (s_assign rfl rfl) ?_
   refine r_end ?_
   obtain ⟨kk0, hkk0, hr⟩ := exK (fun k => lf_constraintref06_Same_L0 k c_a1 a_a0 0) hr
   refine g_len 0 rfl (asl rfl) fun hla0 => ?_
   simp only [List.length_map] at hla0
   refine g_blockJ (fun env σ => env = [] ∧ σ = [] ∧ kk0 = some res) ?_ (fun HK0 => ?_)
   ·
    rintro _ _ ⟨rfl, rfl, hr⟩
    rw [hkk0] at hr
    refine g_seq ?_
    refine g_run (by kernel_rfl) [(0, .d)] rfl ?_
    refine r_d rfl rfl rfl (s_assign rfl rfl) ?_
    refine r_end ?_
    obtain rfl := Option.some.inj hr
    refine g_ret Tryz.func91 _ (.cons (resTmp rfl (Wk.refl _)) .nil) ?_
    rfl
   ·
    refine g_sub [(0, .lst (a_a0.map encP)), (1, .lst (c_a1.map encP)), (5, .int .i64 ((0 : Nat) : Int))] (Sub.cons' rfl (Sub.cons' rfl (Sub.cons' rfl (Sub.nil _)))) ?_
    refine g_loop (fun n env σ => ∃ (i_2 : Nat), (n = a_a0.length - i_2) ∧ (env = [(0, .lst (a_a0.map encP)), (1, .lst (c_a1.map encP)), (5, .int .i64 (i_2 : Int))]) ∧ (σ = []) ∧ (i_2 ≤ a_a0.length) ∧ (lf_constraintref06_Same_L0 kk0 c_a1 (a_a0.drop i_2) i_2 = some res)) _ ⟨0, rfl, rfl, rfl, Nat.zero_le _, hr⟩ ?_
    rintro n _ _ ⟨i_2, rfl, rfl, rfl, hi0, hr⟩ IH0
    rcases listStep a_a0 i_2 hi0 with ⟨ht0, hd0, he0⟩ | ⟨q_3, ht0, hd0, hq0, hlt0⟩
    ·
     rw [hd0, lf_constraintref06_Same_L0] at hr
     refine g_seq ?_
     refine g_seq ?_
     refine g_run (by kernel_rfl) [(0, .d), (1, .d), (2, .d), (3, .d), (4, .d), (5, .d), (6, .d), (7, .d), (8, .d), (9, .d)] rfl ?_
     refine r_d rfl rfl rfl (s_move rfl rfl) ?_
     refine r_d rfl rfl rfl (s_move rfl rfl) ?_
     refine r_d rfl rfl rfl (m_len (f := encP) a_a0 rfl el_api_Binds rfl (asl rfl)) ?_
     refine r_d rfl rfl rfl (s_cmp rfl rfl rfl rfl) ?_
     refine r_d rfl rfl rfl (s_move rfl rfl) ?_
     refine r_known 15 false rfl ht0 ?_
     refine r_skip rfl rfl rfl ?_
     refine r_skip rfl rfl rfl ?_
     refine r_skip rfl rfl rfl ?_
     refine r_skip rfl rfl rfl ?_
     refine r_d rfl rfl rfl (s_pickF rfl rfl rfl) ?_
     refine r_end ?_
     refine g_condF rfl ?_
     refine g_exit rfl ?_
     refine g_sub [] (Sub.nil _) ?_
     exact HK0 _ _ ⟨rfl, rfl, hr⟩
    ·
     rw [hd0, lf_constraintref06_Same_L0] at hr
     refine g_seq ?_
     refine g_seq ?_
     refine g_run (by kernel_rfl) [(0, .d), (1, .d), (2, .d), (3, .d), (4, .d), (5, .d), (6, .d), (7, .d), (8, .d), (9, .d)] rfl ?_
     refine r_d rfl rfl rfl (s_move rfl rfl) ?_
     refine r_d rfl rfl rfl (s_move rfl rfl) ?_
     refine r_d rfl rfl rfl (m_len (f := encP) a_a0 rfl el_api_Binds rfl (asl rfl)) ?_
     refine r_d rfl rfl rfl (s_cmp rfl rfl rfl rfl) ?_
     refine r_d rfl rfl rfl (s_move rfl rfl) ?_
     refine r_known 15 true rfl ht0 ?_
     refine r_d rfl rfl rfl (s_move rfl rfl) ?_
     refine r_d rfl rfl rfl (s_move rfl rfl) ?_
     refine r_d rfl rfl rfl (m_len (f := encP) c_a1 rfl el_api_Binds rfl (asl rfl)) ?_
     refine r_d rfl rfl rfl (s_cmp rfl rfl rfl rfl) ?_
     refine r_d rfl rfl rfl (s_pickT rfl rfl rfl) ?_
     refine r_end ?_
     refine g_sB 20 rfl hr (fun h20_3 hr => ?_) (fun h20_3 hr => ?_)
     ·
      refine g_condT rfl ?_
      refine g_skip ?_
      refine g_seq ?_
      refine g_block ?_
      refine g_seq ?_
      refine g_any (by kernel_rfl) (by kernel_rfl) [(0, .d), (1, .d), (2, .d), (3, .d), (4, .d), (5, .d), (6, .d), (7, .d), (8, .d), (9, .d), (10, .d), (11, .d), (12, .d), (13, .d), (14, .d), (15, .d), (16, .d), (17, .d), (18, .d), (19, .d), (20, .d), (21, .d), (22, .d), (23, .d), (24, .d)] (by kernel_rfl) ?_
      refine r_d rfl rfl rfl (s_move rfl rfl) ?_
      refine r_d rfl rfl rfl (s_move rfl rfl) ?_
      refine r_d rfl rfl rfl (m_index (f := encP) a_a0 rfl el_api_Binds rfl (asl rfl) rfl hq0 sz_encP rfl) ?_
      refine r_d rfl rfl rfl (s_fieldAddr rfl fl_api_Bind_0 rfl rfl rfl rfl) ?_
      refine r_d rfl rfl rfl (s_load rfl rfl (by exact ty_int) rfl) ?_
      refine r_d rfl rfl rfl (s_move rfl rfl) ?_
      refine r_d rfl rfl rfl (s_move rfl rfl) ?_
      obtain ⟨q_5, hq_5, hr⟩ := bindS hr
      refine r_d rfl rfl rfl (m_index (f := encP) c_a1 rfl el_api_Binds rfl (asl rfl) rfl hq_5 sz_encP rfl) ?_
      refine r_d rfl rfl rfl (s_fieldAddr rfl fl_api_Bind_0 rfl rfl rfl rfl) ?_
      refine r_d rfl rfl rfl (s_load rfl rfl (by exact ty_int) rfl) ?_
      refine r_d rfl rfl rfl (s_cmp rfl rfl rfl rfl) ?_
      refine r_d rfl rfl rfl (s_move rfl rfl) ?_
      refine r_sB 34 rfl hr (fun h34_5 hr => ?_) (fun h34_5 hr => ?_)
      ·
       refine r_skip rfl rfl rfl ?_
       refine r_skip rfl rfl rfl ?_
       refine r_skip rfl rfl rfl ?_
       refine r_skip rfl rfl rfl ?_
       refine r_skip rfl rfl rfl ?_
       refine r_skip rfl rfl rfl ?_
       refine r_skip rfl rfl rfl ?_
       refine r_skip rfl rfl rfl ?_
       refine r_skip rfl rfl rfl ?_
       refine r_skip rfl rfl rfl ?_
       refine r_skip rfl rfl rfl ?_
       refine r_skip rfl rfl rfl ?_
       refine r_d rfl rfl rfl (s_pickT rfl rfl rfl) ?_
       refine r_end ?_
       refine g_condT rfl ?_
       refine g_seq ?_
       refine g_run (by kernel_rfl) [(0, .d)] rfl ?_
       refine r_d rfl rfl rfl (s_assign rfl rfl) ?_
       refine r_end ?_
       obtain rfl := Option.some.inj hr
       refine g_ret Tryz.func91 _ (.cons (resTmp rfl (Wk.refl _)) .nil) ?_
       rfl
      ·
       refine r_d rfl rfl rfl (s_move rfl rfl) ?_
       refine r_d rfl rfl rfl (s_move rfl rfl) ?_
       refine r_d rfl rfl rfl (m_index (f := encP) a_a0 rfl el_api_Binds rfl (asl rfl) rfl hq0 sz_encP rfl) ?_
       refine r_d rfl rfl rfl (s_fieldAddr rfl fl_api_Bind_1 rfl rfl rfl rfl) ?_
       refine r_d rfl rfl rfl (s_load rfl rfl (by exact ty_api_Term) (sz_encT _)) ?_
       refine r_d rfl rfl rfl (s_move rfl rfl) ?_
       refine r_d rfl rfl rfl (s_move rfl rfl) ?_
       refine r_d rfl rfl rfl (m_index (f := encP) c_a1 rfl el_api_Binds rfl (asl rfl) rfl hq_5 sz_encP rfl) ?_
       refine r_d rfl rfl rfl (s_fieldAddr rfl fl_api_Bind_1 rfl rfl rfl rfl) ?_
       refine r_d rfl rfl rfl (s_load rfl rfl (by exact ty_api_Term) (sz_encT _)) ?_
       obtain ⟨r_7, hr_7, hr⟩ := bindS hr
       refine r_d rfl rfl rfl (s_callD rfl cl_constraintref03_Same (.cons rfl (Wk.refl _) (.cons rfl (Wk.refl _) .nil)) (lx_constraintref03_Same _ _ _ hr_7)) ?_
       refine r_d rfl rfl rfl (s_not rfl rfl) ?_
       refine r_d rfl rfl rfl (s_pickF rfl rfl rfl) ?_
       refine r_end ?_
       refine g_sB 47 rfl hr (fun h47_7 hr => ?_) (fun h47_7 hr => ?_)
       ·
        refine g_condT rfl ?_
        refine g_seq ?_
        refine g_run (by kernel_rfl) [(0, .d)] rfl ?_
        refine r_d rfl rfl rfl (s_assign rfl rfl) ?_
        refine r_end ?_
        obtain rfl := Option.some.inj hr
        refine g_ret Tryz.func91 _ (.cons (resTmp rfl (Wk.refl _)) .nil) ?_
        rfl
       ·
        refine g_condF rfl ?_
        refine g_skip ?_
        refine g_inBlock ?_
        refine g_run (by kernel_rfl) [(0, .d), (1, .d), (2, .d)] rfl ?_
        refine r_d rfl rfl rfl (s_move rfl rfl) ?_
        refine r_d rfl rfl rfl (s_ar (r := ((i_2 + 1 : Nat) : Int)) rfl rfl rfl (by simp [iar]) (by omega)) ?_
        refine r_d rfl rfl rfl (s_assign rfl rfl) ?_
        refine r_end ?_
        refine g_sub [(0, .lst (a_a0.map encP)), (1, .lst (c_a1.map encP)), (5, .int .i64 ((i_2 + 1 : Nat) : Int))] (Sub.cons' rfl (Sub.cons' rfl (Sub.cons' rfl (Sub.nil _)))) ?_
        exact IH0 _ _ _ (by omega) ⟨(i_2 + 1), rfl, rfl, rfl, (by omega), hr⟩
     ·
      refine g_condF rfl ?_
      refine g_exit rfl ?_
      refine g_sub [] (Sub.nil _) ?_
      exact HK0 _ _ ⟨rfl, rfl, hr⟩

noncomputable def lf_constraintref21_ints (a_a0 : Int) (b_a1 : Int) : Option (Int) :=
  (bif (decide (a_a0 < b_a1)) then
  some ((-1))
  else
  (bif (decide (a_a0 > b_a1)) then
  some (1)
  else
  some (0)))

set_option maxHeartbeats 1000000 in
theorem lg_constraintref21_ints (a_a0 : Int) (b_a1 : Int) (res : Int) (hr : lf_constraintref21_ints a_a0 b_a1 = some res) : Gives Tryz.prog 210 [.int .i64 a_a0, .int .i64 b_a1] (.int .i64 res) := by
  unfold lf_constraintref21_ints at hr
  refine spec_env [(0, .int .i64 a_a0), (1, .int .i64 b_a1)] Tryz.func210 rfl rfl fun K hK => ?_
  refine g_seq ?_
  refine g_run (by kernel_rfl) [(0, .d)] rfl ?_
  refine r_d rfl rfl rfl (s_assign rfl rfl) ?_
  refine r_end ?_
  refine g_seq ?_
  refine g_block ?_
  refine g_seq ?_
  refine g_run (by kernel_rfl) [(0, .d), (1, .d), (2, .d), (3, .d)] rfl ?_
  refine r_d rfl rfl rfl (s_move rfl rfl) ?_
  refine r_d rfl rfl rfl (s_move rfl rfl) ?_
  refine r_d rfl rfl rfl (s_cmp rfl rfl rfl rfl) ?_
  refine r_d rfl rfl rfl (s_assign rfl rfl) ?_
  refine r_end ?_
  refine g_sB 5 rfl hr (fun h5_0 hr => ?_) (fun h5_0 hr => ?_)
  ·
   refine g_condT rfl ?_
   refine g_seq ?_
   refine g_run (by kernel_rfl) [(0, .d)] rfl ?_
   refine r_d rfl rfl rfl (s_assign rfl rfl) ?_
   refine r_end ?_
   obtain rfl := Option.some.inj hr
   refine g_ret Tryz.func210 _ (.cons (resTmp rfl (Wk.refl _)) .nil) ?_
   rfl
  ·
   refine g_condF rfl ?_
   refine g_seq ?_
   refine g_run (by kernel_rfl) [(0, .d), (1, .d), (2, .d), (3, .d)] rfl ?_
   refine r_d rfl rfl rfl (s_move rfl rfl) ?_
   refine r_d rfl rfl rfl (s_move rfl rfl) ?_
   refine r_d rfl rfl rfl (s_cmp rfl rfl rfl rfl) ?_
   refine r_d rfl rfl rfl (s_assign rfl rfl) ?_
   refine r_end ?_
   refine g_sB 9 rfl hr (fun h9_1 hr => ?_) (fun h9_1 hr => ?_)
   ·
    refine g_condT rfl ?_
    refine g_seq ?_
    refine g_run (by kernel_rfl) [(0, .d)] rfl ?_
    refine r_d rfl rfl rfl (s_assign rfl rfl) ?_
    refine r_end ?_
    obtain rfl := Option.some.inj hr
    refine g_ret Tryz.func210 _ (.cons (resTmp rfl (Wk.refl _)) .nil) ?_
    rfl
   ·
    refine g_condF rfl ?_
    refine g_skip ?_
    refine g_inBlock ?_
    refine g_seq ?_
    refine g_run (by kernel_rfl) [(0, .d)] rfl ?_
    refine r_d rfl rfl rfl (s_assign rfl rfl) ?_
    refine r_end ?_
    obtain rfl := Option.some.inj hr
    refine g_ret Tryz.func210 _ (.cons (resTmp rfl (Wk.refl _)) .nil) ?_
    rfl

noncomputable def lf_constraintref21_Compare_L0 (k : (Int) → Option (Int)) (b_a1 : S_api_Fire) : List Int → Int → Nat → Option (Int)
  | [], c_3, i_4 =>
  (k c_3)
  | q_6 :: rest, c_3, i_4 =>
  (bif (decide ((i_4 : Int) < (b_a1.f1_IDs.length : Int))) then
  (bif (c_3 == (0 : Int)) then
  ((getI b_a1.f1_IDs (i_4 : Int)).bind fun q_9 =>
  ((lf_constraintref21_ints q_6 q_9).bind fun r_10 =>
  (lf_constraintref21_Compare_L0 k b_a1 rest r_10 (i_4 + 1))))
  else
  (k c_3))
  else
  (k c_3))

noncomputable def lf_constraintref21_Compare_J0 (k : (Int) → Option (Int)) (a_a0 : S_api_Fire) (b_a1 : S_api_Fire) (r_1 : Int) : Option (Int) :=
  (bif (r_1 == (0 : Int)) then
  ((lf_constraintref21_ints (a_a0.f1_IDs.length : Int) (b_a1.f1_IDs.length : Int)).bind fun r_12 =>
  (k r_12))
  else
  (k r_1))
noncomputable def lf_constraintref21_Compare (a_a0 : S_api_Fire) (b_a1 : S_api_Fire) : Option (Int) :=
  ((lf_constraintref21_ints a_a0.f0_Rule b_a1.f0_Rule).bind fun r_1 =>
  (lf_constraintref21_Compare_J0 (fun c_2 =>
  (lf_constraintref21_Compare_L0 (fun c_5 =>
  some (c_5)) b_a1 a_a0.f1_IDs c_2 0)) a_a0 b_a1 r_1))

set_option maxHeartbeats 1000000 in
theorem lg_constraintref21_Compare (a_a0 : S_api_Fire) (b_a1 : S_api_Fire) (res : Int) (hr : lf_constraintref21_Compare a_a0 b_a1 = some res) : Gives Tryz.prog 168 [enc_S_api_Fire a_a0, enc_S_api_Fire b_a1] (.int .i64 res) := by
  unfold lf_constraintref21_Compare at hr
  refine spec_env [(0, enc_S_api_Fire a_a0), (1, enc_S_api_Fire b_a1)] Tryz.func168 rfl rfl fun K hK => ?_
  refine g_seq ?_
  refine g_run (by kernel_rfl) [(0, .d), (1, .d), (2, .d)] rfl ?_
  refine r_d rfl rfl rfl (s_box rfl rfl rfl) ?_
  refine r_d rfl rfl rfl (s_box rfl rfl rfl) ?_
  refine r_d rfl rfl rfl (s_assign rfl rfl) ?_
  refine r_end ?_
  refine g_seq ?_
  refine g_run (by kernel_rfl) [(0, .d), (1, .d), (2, .d), (3, .d), (4, .d), (5, .d)] rfl ?_
  refine r_d rfl rfl rfl (s_fieldAddr rfl fl_api_Fire_0 rfl rfl rfl rfl) ?_
  refine r_d rfl rfl rfl (s_load rfl rfl (by exact ty_int) rfl) ?_
  refine r_d rfl rfl rfl (s_fieldAddr rfl fl_api_Fire_0 rfl rfl rfl rfl) ?_
  refine r_d rfl rfl rfl (s_load rfl rfl (by exact ty_int) rfl) ?_
  obtain ⟨r_1, hr_1, hr⟩ := bindS hr
  refine r_d rfl rfl rfl (s_callD rfl cl_constraintref21_ints (.cons rfl (Wk.refl _) (.cons rfl (Wk.refl _) .nil)) (lg_constraintref21_ints _ _ _ hr_1)) ?_
  refine r_d rfl rfl rfl (s_assign rfl rfl) ?_
  refine r_end ?_
  obtain ⟨kkJ0, hkkJ0, hr⟩ := exK (fun k => lf_constraintref21_Compare_J0 k a_a0 b_a1 r_1) hr
  refine g_seqJ (fun env σ => ∃ (c_2 : Int), env = [(2, .ptr (enc_S_api_Fire a_a0)), (3, .ptr (enc_S_api_Fire b_a1)), (5, .int .i64 c_2)] ∧ σ = [] ∧ kkJ0 c_2 = some res) ?_ (fun HKJ0 => ?_)
  ·
   rintro _ _ ⟨c_2, rfl, rfl, hr⟩
   rw [hkkJ0] at hr
   refine g_seq ?_
   refine g_seq ?_
   refine g_run (by kernel_rfl) [(0, .d)] rfl ?_
   refine r_d rfl rfl rfl (s_assign rfl rfl) ?_
   refine r_end ?_
   obtain ⟨kk0, hkk0, hr⟩ := exK (fun k => lf_constraintref21_Compare_L0 k b_a1 a_a0.f1_IDs c_2 0) hr
   refine g_lenP 2 [1] (l := a_a0.f1_IDs.map (D.int .i64)) rfl rfl (asl rfl) fun hla0 => ?_
   simp only [List.length_map] at hla0
   refine g_blockJ (fun env σ => ∃ (c_5 : Int), env = [(5, .int .i64 c_5)] ∧ σ = [] ∧ kk0 c_5 = some res) ?_ (fun HK0 => ?_)
   ·
    rintro _ _ ⟨c_5, rfl, rfl, hr⟩
    rw [hkk0] at hr
    refine g_seq ?_
    refine g_run (by kernel_rfl) [(0, .d), (1, .d)] rfl ?_
    refine r_d rfl rfl rfl (s_move rfl rfl) ?_
    refine r_d rfl rfl rfl (s_assign rfl rfl) ?_
    refine r_end ?_
    obtain rfl := Option.some.inj hr
    refine g_ret Tryz.func168 _ (.cons (resTmp rfl (Wk.refl _)) .nil) ?_
    rfl
   ·
    refine g_sub [(2, .ptr (enc_S_api_Fire a_a0)), (3, .ptr (enc_S_api_Fire b_a1)), (5, .int .i64 c_2), (6, .int .i64 ((0 : Nat) : Int))] (Sub.cons' rfl (Sub.cons' rfl (Sub.cons' rfl (Sub.cons' rfl (Sub.nil _))))) ?_
    refine g_loop (fun n env σ => ∃ (c_3 : Int) (i_4 : Nat), (n = a_a0.f1_IDs.length - i_4) ∧ (env = [(2, .ptr (enc_S_api_Fire a_a0)), (3, .ptr (enc_S_api_Fire b_a1)), (5, .int .i64 c_3), (6, .int .i64 (i_4 : Int))]) ∧ (σ = []) ∧ (i_4 ≤ a_a0.f1_IDs.length) ∧ (lf_constraintref21_Compare_L0 kk0 b_a1 (a_a0.f1_IDs.drop i_4) c_3 i_4 = some res)) _ ⟨c_2, 0, rfl, rfl, rfl, Nat.zero_le _, hr⟩ ?_
    rintro n _ _ ⟨c_3, i_4, rfl, rfl, rfl, hi0, hr⟩ IH0
    rcases listStep a_a0.f1_IDs i_4 hi0 with ⟨ht0, hd0, he0⟩ | ⟨q_6, ht0, hd0, hq0, hlt0⟩
    ·
     rw [hd0, lf_constraintref21_Compare_L0] at hr
     refine g_seq ?_
     refine g_seq ?_
     refine g_run (by kernel_rfl) [(0, .d), (1, .d), (2, .d), (3, .d), (4, .d), (5, .d), (6, .d), (7, .d), (8, .d), (9, .d), (10, .d), (11, .d), (12, .d), (13, .d), (14, .d), (15, .d)] rfl ?_
     refine r_d rfl rfl rfl (s_move rfl rfl) ?_
     refine r_d rfl rfl rfl (s_fieldAddr rfl fl_api_Fire_1 rfl rfl rfl rfl) ?_
     refine r_d rfl rfl rfl (s_load rfl rfl (by exact ty_L_int) rfl) ?_
     refine r_d rfl rfl rfl (m_len (f := (D.int .i64)) a_a0.f1_IDs rfl el_L_int rfl (asl rfl)) ?_
     refine r_d rfl rfl rfl (s_cmp rfl rfl rfl rfl) ?_
     refine r_d rfl rfl rfl (s_move rfl rfl) ?_
     refine r_known 26 false rfl ht0 ?_
     refine r_skip rfl rfl rfl ?_
     refine r_skip rfl rfl rfl ?_
     refine r_skip rfl rfl rfl ?_
     refine r_skip rfl rfl rfl ?_
     refine r_skip rfl rfl rfl ?_
     refine r_d rfl rfl rfl (s_pickF rfl rfl rfl) ?_
     refine r_d rfl rfl rfl (s_move rfl rfl) ?_
     refine r_skip rfl rfl rfl ?_
     refine r_skip rfl rfl rfl ?_
     refine r_d rfl rfl rfl (s_pickF rfl rfl rfl) ?_
     refine r_end ?_
     refine g_condF rfl ?_
     refine g_exit rfl ?_
     refine g_sub [(5, .int .i64 c_3)] (Sub.cons' rfl (Sub.nil _)) ?_
     exact HK0 _ _ ⟨c_3, rfl, rfl, hr⟩
    ·
     rw [hd0, lf_constraintref21_Compare_L0] at hr
     refine g_seq ?_
     refine g_seq ?_
     refine g_run (by kernel_rfl) [(0, .d), (1, .d), (2, .d), (3, .d), (4, .d), (5, .d), (6, .d), (7, .d), (8, .d), (9, .d), (10, .d), (11, .d), (12, .d), (13, .d), (14, .d), (15, .d)] rfl ?_
     refine r_d rfl rfl rfl (s_move rfl rfl) ?_
     refine r_d rfl rfl rfl (s_fieldAddr rfl fl_api_Fire_1 rfl rfl rfl rfl) ?_
     refine r_d rfl rfl rfl (s_load rfl rfl (by exact ty_L_int) rfl) ?_
     refine r_d rfl rfl rfl (m_len (f := (D.int .i64)) a_a0.f1_IDs rfl el_L_int rfl (asl rfl)) ?_
     refine r_d rfl rfl rfl (s_cmp rfl rfl rfl rfl) ?_
     refine r_d rfl rfl rfl (s_move rfl rfl) ?_
     refine r_known 26 true rfl ht0 ?_
     refine r_d rfl rfl rfl (s_move rfl rfl) ?_
     refine r_d rfl rfl rfl (s_fieldAddr rfl fl_api_Fire_1 rfl rfl rfl rfl) ?_
     refine r_d rfl rfl rfl (s_load rfl rfl (by exact ty_L_int) rfl) ?_
     refine r_d rfl rfl rfl (m_len (f := (D.int .i64)) b_a1.f1_IDs rfl el_L_int rfl (asl rfl)) ?_
     refine r_d rfl rfl rfl (s_cmp rfl rfl rfl rfl) ?_
     refine r_d rfl rfl rfl (s_pickT rfl rfl rfl) ?_
     refine r_d rfl rfl rfl (s_move rfl rfl) ?_
     refine r_sB 33 rfl hr (fun h33_6 hr => ?_) (fun h33_6 hr => ?_)
     ·
      refine r_d rfl rfl rfl (s_move rfl rfl) ?_
      refine r_d rfl rfl rfl (s_cmp rfl rfl rfl rfl) ?_
      refine r_d rfl rfl rfl (s_pickT rfl rfl rfl) ?_
      refine r_end ?_
      refine g_sB 36 rfl hr (fun h36_7 hr => ?_) (fun h36_7 hr => ?_)
      ·
       refine g_condT rfl ?_
       refine g_skip ?_
       refine g_seq ?_
       refine g_block ?_
       refine g_any (by kernel_rfl) (by kernel_rfl) [(0, .d), (1, .d), (2, .d), (3, .d), (4, .d), (5, .d), (6, .d), (7, .d), (8, .d), (9, .d), (10, .d), (11, .d)] (by kernel_rfl) ?_
       refine r_d rfl rfl rfl (s_fieldAddr rfl fl_api_Fire_1 rfl rfl rfl rfl) ?_
       refine r_d rfl rfl rfl (s_load rfl rfl (by exact ty_L_int) rfl) ?_
       refine r_d rfl rfl rfl (s_move rfl rfl) ?_
       refine r_d rfl rfl rfl (m_index (f := (D.int .i64)) a_a0.f1_IDs rfl el_L_int rfl (asl rfl) rfl hq0 (fun _ => rfl) rfl) ?_
       refine r_d rfl rfl rfl (s_load rfl rfl (by exact ty_int) rfl) ?_
       refine r_d rfl rfl rfl (s_fieldAddr rfl fl_api_Fire_1 rfl rfl rfl rfl) ?_
       refine r_d rfl rfl rfl (s_load rfl rfl (by exact ty_L_int) rfl) ?_
       refine r_d rfl rfl rfl (s_move rfl rfl) ?_
       obtain ⟨q_9, hq_9, hr⟩ := bindS hr
       refine r_d rfl rfl rfl (m_index (f := (D.int .i64)) b_a1.f1_IDs rfl el_L_int rfl (asl rfl) rfl hq_9 (fun _ => rfl) rfl) ?_
       refine r_d rfl rfl rfl (s_load rfl rfl (by exact ty_int) rfl) ?_
       obtain ⟨r_10, hr_10, hr⟩ := bindS hr
       refine r_d rfl rfl rfl (s_callD rfl cl_constraintref21_ints (.cons rfl (Wk.refl _) (.cons rfl (Wk.refl _) .nil)) (lg_constraintref21_ints _ _ _ hr_10)) ?_
       refine r_d rfl rfl rfl (s_assign rfl rfl) ?_
       refine r_end ?_
       refine g_inBlock ?_
       refine g_run (by kernel_rfl) [(0, .d), (1, .d), (2, .d)] rfl ?_
       refine r_d rfl rfl rfl (s_move rfl rfl) ?_
       refine r_d rfl rfl rfl (s_ar (r := ((i_4 + 1 : Nat) : Int)) rfl rfl rfl (by simp [iar]) (by omega)) ?_
       refine r_d rfl rfl rfl (s_assign rfl rfl) ?_
       refine r_end ?_
       refine g_sub [(2, .ptr (enc_S_api_Fire a_a0)), (3, .ptr (enc_S_api_Fire b_a1)), (5, .int .i64 r_10), (6, .int .i64 ((i_4 + 1 : Nat) : Int))] (Sub.cons' rfl (Sub.cons' rfl (Sub.cons' rfl (Sub.cons' rfl (Sub.nil _))))) ?_
       exact IH0 _ _ _ (by omega) ⟨r_10, (i_4 + 1), rfl, rfl, rfl, (by omega), hr⟩
      ·
       refine g_condF rfl ?_
       refine g_exit rfl ?_
       refine g_sub [(5, .int .i64 c_3)] (Sub.cons' rfl (Sub.nil _)) ?_
       exact HK0 _ _ ⟨c_3, rfl, rfl, hr⟩
     ·
      refine r_skip rfl rfl rfl ?_
      refine r_skip rfl rfl rfl ?_
      refine r_d rfl rfl rfl (s_pickF rfl rfl rfl) ?_
      refine r_end ?_
      refine g_condF rfl ?_
      refine g_exit rfl ?_
      refine g_sub [(5, .int .i64 c_3)] (Sub.cons' rfl (Sub.nil _)) ?_
      exact HK0 _ _ ⟨c_3, rfl, rfl, hr⟩
  ·
   unfold lf_constraintref21_Compare_J0 at hr
   refine g_seq ?_
   refine g_run (by kernel_rfl) [(0, .d), (1, .d)] rfl ?_
   refine r_d rfl rfl rfl (s_move rfl rfl) ?_
   refine r_d rfl rfl rfl (s_cmp rfl rfl rfl rfl) ?_
   refine r_end ?_
   refine g_sB 13 rfl hr (fun h13_10 hr => ?_) (fun h13_10 hr => ?_)
   ·
    refine g_condT rfl ?_
    refine g_run (by kernel_rfl) [(0, .d), (1, .d), (2, .d), (3, .d), (4, .d), (5, .d), (6, .d), (7, .d)] rfl ?_
    refine r_d rfl rfl rfl (s_fieldAddr rfl fl_api_Fire_1 rfl rfl rfl rfl) ?_
    refine r_d rfl rfl rfl (s_load rfl rfl (by exact ty_L_int) rfl) ?_
    refine r_d rfl rfl rfl (m_len (f := (D.int .i64)) a_a0.f1_IDs rfl el_L_int rfl (asl rfl)) ?_
    refine r_d rfl rfl rfl (s_fieldAddr rfl fl_api_Fire_1 rfl rfl rfl rfl) ?_
    refine r_d rfl rfl rfl (s_load rfl rfl (by exact ty_L_int) rfl) ?_
    refine r_d rfl rfl rfl (m_len (f := (D.int .i64)) b_a1.f1_IDs rfl el_L_int rfl (asl rfl)) ?_
    obtain ⟨r_12, hr_12, hr⟩ := bindS hr
    refine r_d rfl rfl rfl (s_callD rfl cl_constraintref21_ints (.cons rfl (Wk.refl _) (.cons rfl (Wk.refl _) .nil)) (lg_constraintref21_ints _ _ _ hr_12)) ?_
    refine r_d rfl rfl rfl (s_assign rfl rfl) ?_
    refine r_end ?_
    refine g_sub [(2, .ptr (enc_S_api_Fire a_a0)), (3, .ptr (enc_S_api_Fire b_a1)), (5, .int .i64 r_12)] (Sub.cons' rfl (Sub.cons' rfl (Sub.cons' rfl (Sub.nil _)))) ?_
    exact HKJ0 _ _ ⟨r_12, rfl, rfl, hr⟩
   ·
    refine g_condF rfl ?_
    refine g_skip ?_
    refine g_sub [(2, .ptr (enc_S_api_Fire a_a0)), (3, .ptr (enc_S_api_Fire b_a1)), (5, .int .i64 r_1)] (Sub.cons' rfl (Sub.cons' rfl (Sub.cons' rfl (Sub.nil _)))) ?_
    exact HKJ0 _ _ ⟨r_1, rfl, rfl, hr⟩

noncomputable def lf_constraintref21_Same_L0 (k : Option (Bool)) (b_a1 : (List S_api_Fire)) : List S_api_Fire → Nat → Option (Bool)
  | [], i_2 =>
  k
  | q_3 :: rest, i_2 =>
  (bif (decide ((i_2 : Int) < (b_a1.length : Int))) then
  ((getI b_a1 (i_2 : Int)).bind fun q_5 =>
  ((lf_constraintref21_Compare q_3 q_5).bind fun r_6 =>
  (bif (r_6 != (0 : Int)) then
  some (false)
  else
  (lf_constraintref21_Same_L0 k b_a1 rest (i_2 + 1)))))
  else
  k)
noncomputable def lf_constraintref21_Same (a_a0 : (List S_api_Fire)) (b_a1 : (List S_api_Fire)) : Option (Bool) :=
  (bif ((a_a0.length : Int) != (b_a1.length : Int)) then
  some (false)
  else
  (lf_constraintref21_Same_L0 (some (true)) b_a1 a_a0 0))

set_option maxHeartbeats 1000000 in
theorem lg_constraintref21_Same (a_a0 : (List S_api_Fire)) (b_a1 : (List S_api_Fire)) (res : Bool) (hr : lf_constraintref21_Same a_a0 b_a1 = some res) : Gives Tryz.prog 92 [.lst (a_a0.map enc_S_api_Fire), .lst (b_a1.map enc_S_api_Fire)] (.bool res) := by
  unfold lf_constraintref21_Same at hr
  refine spec_env [(0, .lst (a_a0.map enc_S_api_Fire)), (1, .lst (b_a1.map enc_S_api_Fire))] Tryz.func92 rfl rfl fun K hK => ?_
  refine g_seq ?_
  refine g_run (by kernel_rfl) [(0, .d)] rfl ?_
  refine r_d rfl rfl rfl (s_assign rfl rfl) ?_
  refine r_end ?_
  refine g_seq ?_
  refine g_seq ?_
  refine g_run (by kernel_rfl) [(0, .d), (1, .d), (2, .d), (3, .d), (4, .d)] rfl ?_
  refine r_d rfl rfl rfl (s_move rfl rfl) ?_
  refine r_d rfl rfl rfl (m_len (f := enc_S_api_Fire) a_a0 rfl el_L_api_Fire rfl (asl rfl)) ?_
  refine r_d rfl rfl rfl (s_move rfl rfl) ?_
  refine r_d rfl rfl rfl (m_len (f := enc_S_api_Fire) b_a1 rfl el_L_api_Fire rfl (asl rfl)) ?_
  refine r_d rfl rfl rfl (s_cmp rfl rfl rfl rfl) ?_
  refine r_end ?_
  refine g_sB 10 rfl hr (fun h10_0 hr => ?_) (fun h10_0 hr => ?_)
  ·
   refine g_condT rfl ?_
   refine g_seq ?_
   refine g_run (by kernel_rfl) [(0, .d)] rfl ?_
   refine r_d rfl rfl rfl (s_assign rfl rfl) ?_
   refine r_end ?_
   obtain rfl := Option.some.inj hr
   refine g_ret Tryz.func92 _ (.cons (resTmp rfl (Wk.refl _)) .nil) ?_
   rfl
  ·
   refine g_condF rfl ?_
   refine g_skip ?_
   refine g_seq ?_
   refine g_seq ?_
   refine g_run (by kernel_rfl) [(0, .d)] rfl ?_
   refine r_d rfl rfl rfl (s_assign rfl rfl) ?_
   refine r_end ?_
   obtain ⟨kk0, hkk0, hr⟩ := exK (fun k => lf_constraintref21_Same_L0 k b_a1 a_a0 0) hr
   refine g_len 0 rfl (asl rfl) fun hla0 => ?_
   simp only [List.length_map] at hla0
   refine g_blockJ (fun env σ => env = [] ∧ σ = [] ∧ kk0 = some res) ?_ (fun HK0 => ?_)
   ·
    rintro _ _ ⟨rfl, rfl, hr⟩
    rw [hkk0] at hr
    refine g_seq ?_
    refine g_run (by kernel_rfl) [(0, .d)] rfl ?_
    refine r_d rfl rfl rfl (s_assign rfl rfl) ?_
    refine r_end ?_
    obtain rfl := Option.some.inj hr
    refine g_ret Tryz.func92 _ (.cons (resTmp rfl (Wk.refl _)) .nil) ?_
    rfl
   ·
    refine g_sub [(0, .lst (a_a0.map enc_S_api_Fire)), (1, .lst (b_a1.map enc_S_api_Fire)), (5, .int .i64 ((0 : Nat) : Int))] (Sub.cons' rfl (Sub.cons' rfl (Sub.cons' rfl (Sub.nil _)))) ?_
    refine g_loop (fun n env σ => ∃ (i_2 : Nat), (n = a_a0.length - i_2) ∧ (env = [(0, .lst (a_a0.map enc_S_api_Fire)), (1, .lst (b_a1.map enc_S_api_Fire)), (5, .int .i64 (i_2 : Int))]) ∧ (σ = []) ∧ (i_2 ≤ a_a0.length) ∧ (lf_constraintref21_Same_L0 kk0 b_a1 (a_a0.drop i_2) i_2 = some res)) _ ⟨0, rfl, rfl, rfl, Nat.zero_le _, hr⟩ ?_
    rintro n _ _ ⟨i_2, rfl, rfl, rfl, hi0, hr⟩ IH0
    rcases listStep a_a0 i_2 hi0 with ⟨ht0, hd0, he0⟩ | ⟨q_3, ht0, hd0, hq0, hlt0⟩
    ·
     rw [hd0, lf_constraintref21_Same_L0] at hr
     refine g_seq ?_
     refine g_seq ?_
     refine g_run (by kernel_rfl) [(0, .d), (1, .d), (2, .d), (3, .d), (4, .d), (5, .d), (6, .d), (7, .d), (8, .d), (9, .d)] rfl ?_
     refine r_d rfl rfl rfl (s_move rfl rfl) ?_
     refine r_d rfl rfl rfl (s_move rfl rfl) ?_
     refine r_d rfl rfl rfl (m_len (f := enc_S_api_Fire) a_a0 rfl el_L_api_Fire rfl (asl rfl)) ?_
     refine r_d rfl rfl rfl (s_cmp rfl rfl rfl rfl) ?_
     refine r_d rfl rfl rfl (s_move rfl rfl) ?_
     refine r_known 15 false rfl ht0 ?_
     refine r_skip rfl rfl rfl ?_
     refine r_skip rfl rfl rfl ?_
     refine r_skip rfl rfl rfl ?_
     refine r_skip rfl rfl rfl ?_
     refine r_d rfl rfl rfl (s_pickF rfl rfl rfl) ?_
     refine r_end ?_
     refine g_condF rfl ?_
     refine g_exit rfl ?_
     refine g_sub [] (Sub.nil _) ?_
     exact HK0 _ _ ⟨rfl, rfl, hr⟩
    ·
     rw [hd0, lf_constraintref21_Same_L0] at hr
     refine g_seq ?_
     refine g_seq ?_
     refine g_run (by kernel_rfl) [(0, .d), (1, .d), (2, .d), (3, .d), (4, .d), (5, .d), (6, .d), (7, .d), (8, .d), (9, .d)] rfl ?_
     refine r_d rfl rfl rfl (s_move rfl rfl) ?_
     refine r_d rfl rfl rfl (s_move rfl rfl) ?_
     refine r_d rfl rfl rfl (m_len (f := enc_S_api_Fire) a_a0 rfl el_L_api_Fire rfl (asl rfl)) ?_
     refine r_d rfl rfl rfl (s_cmp rfl rfl rfl rfl) ?_
     refine r_d rfl rfl rfl (s_move rfl rfl) ?_
     refine r_known 15 true rfl ht0 ?_
     refine r_d rfl rfl rfl (s_move rfl rfl) ?_
     refine r_d rfl rfl rfl (s_move rfl rfl) ?_
     refine r_d rfl rfl rfl (m_len (f := enc_S_api_Fire) b_a1 rfl el_L_api_Fire rfl (asl rfl)) ?_
     refine r_d rfl rfl rfl (s_cmp rfl rfl rfl rfl) ?_
     refine r_d rfl rfl rfl (s_pickT rfl rfl rfl) ?_
     refine r_end ?_
     refine g_sB 20 rfl hr (fun h20_3 hr => ?_) (fun h20_3 hr => ?_)
     ·
      refine g_condT rfl ?_
      refine g_skip ?_
      refine g_seq ?_
      refine g_block ?_
      refine g_seq ?_
      refine g_any (by kernel_rfl) (by kernel_rfl) [(0, .d), (1, .d), (2, .d), (3, .d), (4, .d), (5, .d), (6, .d), (7, .d), (8, .d), (9, .d)] (by kernel_rfl) ?_
      refine r_d rfl rfl rfl (s_move rfl rfl) ?_
      refine r_d rfl rfl rfl (s_move rfl rfl) ?_
      refine r_d rfl rfl rfl (m_index (f := enc_S_api_Fire) a_a0 rfl el_L_api_Fire rfl (asl rfl) rfl hq0 sz_S_api_Fire rfl) ?_
      refine r_d rfl rfl rfl (s_load rfl rfl (by exact ty_api_Fire) (sz_S_api_Fire _)) ?_
      refine r_d rfl rfl rfl (s_move rfl rfl) ?_
      refine r_d rfl rfl rfl (s_move rfl rfl) ?_
      obtain ⟨q_5, hq_5, hr⟩ := bindS hr
      refine r_d rfl rfl rfl (m_index (f := enc_S_api_Fire) b_a1 rfl el_L_api_Fire rfl (asl rfl) rfl hq_5 sz_S_api_Fire rfl) ?_
      refine r_d rfl rfl rfl (s_load rfl rfl (by exact ty_api_Fire) (sz_S_api_Fire _)) ?_
      obtain ⟨r_6, hr_6, hr⟩ := bindS hr
      refine r_d rfl rfl rfl (s_callD rfl cl_constraintref21_Compare (.cons rfl (Wk.refl _) (.cons rfl (Wk.refl _) .nil)) (lg_constraintref21_Compare _ _ _ hr_6)) ?_
      refine r_d rfl rfl rfl (s_cmp rfl rfl rfl rfl) ?_
      refine r_end ?_
      refine g_sB 32 rfl hr (fun h32_6 hr => ?_) (fun h32_6 hr => ?_)
      ·
       refine g_condT rfl ?_
       refine g_seq ?_
       refine g_run (by kernel_rfl) [(0, .d)] rfl ?_
       refine r_d rfl rfl rfl (s_assign rfl rfl) ?_
       refine r_end ?_
       obtain rfl := Option.some.inj hr
       refine g_ret Tryz.func92 _ (.cons (resTmp rfl (Wk.refl _)) .nil) ?_
       rfl
      ·
       refine g_condF rfl ?_
       refine g_skip ?_
       refine g_inBlock ?_
       refine g_run (by kernel_rfl) [(0, .d), (1, .d), (2, .d)] rfl ?_
       refine r_d rfl rfl rfl (s_move rfl rfl) ?_
       refine r_d rfl rfl rfl (s_ar (r := ((i_2 + 1 : Nat) : Int)) rfl rfl rfl (by simp [iar]) (by omega)) ?_
       refine r_d rfl rfl rfl (s_assign rfl rfl) ?_
       refine r_end ?_
       refine g_sub [(0, .lst (a_a0.map enc_S_api_Fire)), (1, .lst (b_a1.map enc_S_api_Fire)), (5, .int .i64 ((i_2 + 1 : Nat) : Int))] (Sub.cons' rfl (Sub.cons' rfl (Sub.cons' rfl (Sub.nil _)))) ?_
       exact IH0 _ _ _ (by omega) ⟨(i_2 + 1), rfl, rfl, rfl, (by omega), hr⟩
     ·
      refine g_condF rfl ?_
      refine g_exit rfl ?_
      refine g_sub [] (Sub.nil _) ?_
      exact HK0 _ _ ⟨rfl, rfl, hr⟩

noncomputable def lf_constraintref26_Same (a_a0 : S_api_Config) (b_a1 : S_api_Config) : Option (Bool) :=
  ((lf_constraintref26_sameFrames a_a0.f0_Stack b_a1.f0_Stack).bind fun r_1 =>
  (bif r_1 then
  ((lf_constraintref19_Same a_a0.f1_Store b_a1.f1_Store).bind fun r_3 =>
  (bif r_3 then
  ((lf_constraintref06_Same a_a0.f2_Binds b_a1.f2_Binds).bind fun r_5 =>
  (bif r_5 then
  ((lf_constraintref21_Same a_a0.f3_Fired b_a1.f3_Fired).bind fun r_7 =>
  (bif r_7 then
  (bif (a_a0.f4_Next == b_a1.f4_Next) then
  (bif (a_a0.f5_Fresh == b_a1.f5_Fresh) then
  some ((a_a0.f6_Failed == b_a1.f6_Failed))
  else
  some (false))
  else
  some (false))
  else
  some (false)))
  else
  some (false)))
  else
  some (false)))
  else
  some (false)))

set_option maxHeartbeats 1000000 in
theorem lg_constraintref26_Same (a_a0 : S_api_Config) (b_a1 : S_api_Config) (res : Bool) (hr : lf_constraintref26_Same a_a0 b_a1 = some res) : Gives Tryz.prog 20 [enc_S_api_Config a_a0, enc_S_api_Config b_a1] (.bool res) := by
  unfold lf_constraintref26_Same at hr
  refine spec_env [(0, enc_S_api_Config a_a0), (1, enc_S_api_Config b_a1)] Tryz.func20 rfl rfl fun K hK => ?_
  refine g_seq ?_
  refine g_run (by kernel_rfl) [(0, .d), (1, .d), (2, .d)] rfl ?_
  refine r_d rfl rfl rfl (s_box rfl rfl rfl) ?_
  refine r_d rfl rfl rfl (s_box rfl rfl rfl) ?_
  refine r_d rfl rfl rfl (s_assign rfl rfl) ?_
  refine r_end ?_
  refine g_seq ?_
  refine g_run (by kernel_rfl) [(0, .d), (1, .d), (2, .d), (3, .d), (4, .d), (5, .d), (6, .d), (7, .d), (8, .d), (9, .d), (10, .d), (11, .d), (12, .d), (13, .d), (14, .d), (15, .d), (16, .d), (17, .d), (18, .d), (19, .d), (20, .d), (21, .d), (22, .d), (23, .d), (24, .d), (25, .d), (26, .d), (27, .d), (28, .d), (29, .d), (30, .d), (31, .d), (32, .d), (33, .d), (34, .d), (35, .d), (36, .d), (37, .d), (38, .d), (39, .d), (40, .d), (41, .d), (42, .d), (43, .d), (44, .d), (45, .d), (46, .d), (47, .d)] rfl ?_
  refine r_d rfl rfl rfl (s_fieldAddr rfl fl_api_Config_0 rfl rfl rfl rfl) ?_
  refine r_d rfl rfl rfl (s_load rfl rfl (by exact ty_L_api_Frame) rfl) ?_
  refine r_d rfl rfl rfl (s_fieldAddr rfl fl_api_Config_0 rfl rfl rfl rfl) ?_
  refine r_d rfl rfl rfl (s_load rfl rfl (by exact ty_L_api_Frame) rfl) ?_
  obtain ⟨r_1, hr_1, hr⟩ := bindS hr
  refine r_d rfl rfl rfl (s_callD rfl cl_constraintref26_sameFrames (.cons rfl (Wk.refl _) (.cons rfl (Wk.refl _) .nil)) (lg_constraintref26_sameFrames _ _ _ hr_1)) ?_
  refine r_d rfl rfl rfl (s_move rfl rfl) ?_
  refine r_sB 10 rfl hr (fun h10_1 hr => ?_) (fun h10_1 hr => ?_)
  ·
   refine r_d rfl rfl rfl (s_fieldAddr rfl fl_api_Config_1 rfl rfl rfl rfl) ?_
   refine r_d rfl rfl rfl (s_load rfl rfl (by exact ty_L_api_Item) rfl) ?_
   refine r_d rfl rfl rfl (s_fieldAddr rfl fl_api_Config_1 rfl rfl rfl rfl) ?_
   refine r_d rfl rfl rfl (s_load rfl rfl (by exact ty_L_api_Item) rfl) ?_
   obtain ⟨r_3, hr_3, hr⟩ := bindS hr
   refine r_d rfl rfl rfl (s_callD rfl cl_constraintref19_Same (.cons rfl (Wk.refl _) (.cons rfl (Wk.refl _) .nil)) (lg_constraintref19_Same _ _ _ hr_3)) ?_
   refine r_d rfl rfl rfl (s_pickT rfl rfl rfl) ?_
   refine r_d rfl rfl rfl (s_move rfl rfl) ?_
   refine r_sB 17 rfl hr (fun h17_3 hr => ?_) (fun h17_3 hr => ?_)
   ·
    refine r_d rfl rfl rfl (s_fieldAddr rfl fl_api_Config_2 rfl rfl rfl rfl) ?_
    refine r_d rfl rfl rfl (s_load rfl rfl (by exact ty_api_Binds) rfl) ?_
    refine r_d rfl rfl rfl (s_fieldAddr rfl fl_api_Config_2 rfl rfl rfl rfl) ?_
    refine r_d rfl rfl rfl (s_load rfl rfl (by exact ty_api_Binds) rfl) ?_
    obtain ⟨r_5, hr_5, hr⟩ := bindS hr
    refine r_d rfl rfl rfl (s_callD rfl cl_constraintref06_Same (.cons rfl (Wk.refl _) (.cons rfl (Wk.refl _) .nil)) (lg_constraintref06_Same _ _ _ hr_5)) ?_
    refine r_d rfl rfl rfl (s_pickT rfl rfl rfl) ?_
    refine r_d rfl rfl rfl (s_move rfl rfl) ?_
    refine r_sB 24 rfl hr (fun h24_5 hr => ?_) (fun h24_5 hr => ?_)
    ·
     refine r_d rfl rfl rfl (s_fieldAddr rfl fl_api_Config_3 rfl rfl rfl rfl) ?_
     refine r_d rfl rfl rfl (s_load rfl rfl (by exact ty_L_api_Fire) rfl) ?_
     refine r_d rfl rfl rfl (s_fieldAddr rfl fl_api_Config_3 rfl rfl rfl rfl) ?_
     refine r_d rfl rfl rfl (s_load rfl rfl (by exact ty_L_api_Fire) rfl) ?_
     obtain ⟨r_7, hr_7, hr⟩ := bindS hr
     refine r_d rfl rfl rfl (s_callD rfl cl_constraintref21_Same (.cons rfl (Wk.refl _) (.cons rfl (Wk.refl _) .nil)) (lg_constraintref21_Same _ _ _ hr_7)) ?_
     refine r_d rfl rfl rfl (s_pickT rfl rfl rfl) ?_
     refine r_d rfl rfl rfl (s_move rfl rfl) ?_
     refine r_sB 31 rfl hr (fun h31_7 hr => ?_) (fun h31_7 hr => ?_)
     ·
      refine r_d rfl rfl rfl (s_fieldAddr rfl fl_api_Config_4 rfl rfl rfl rfl) ?_
      refine r_d rfl rfl rfl (s_load rfl rfl (by exact ty_int) rfl) ?_
      refine r_d rfl rfl rfl (s_fieldAddr rfl fl_api_Config_4 rfl rfl rfl rfl) ?_
      refine r_d rfl rfl rfl (s_load rfl rfl (by exact ty_int) rfl) ?_
      refine r_d rfl rfl rfl (s_cmp rfl rfl rfl rfl) ?_
      refine r_d rfl rfl rfl (s_pickT rfl rfl rfl) ?_
      refine r_d rfl rfl rfl (s_move rfl rfl) ?_
      refine r_sB 38 rfl hr (fun h38_8 hr => ?_) (fun h38_8 hr => ?_)
      ·
       refine r_d rfl rfl rfl (s_fieldAddr rfl fl_api_Config_5 rfl rfl rfl rfl) ?_
       refine r_d rfl rfl rfl (s_load rfl rfl (by exact ty_int) rfl) ?_
       refine r_d rfl rfl rfl (s_fieldAddr rfl fl_api_Config_5 rfl rfl rfl rfl) ?_
       refine r_d rfl rfl rfl (s_load rfl rfl (by exact ty_int) rfl) ?_
       refine r_d rfl rfl rfl (s_cmp rfl rfl rfl rfl) ?_
       refine r_d rfl rfl rfl (s_pickT rfl rfl rfl) ?_
       refine r_d rfl rfl rfl (s_move rfl rfl) ?_
       refine r_sB 45 rfl hr (fun h45_9 hr => ?_) (fun h45_9 hr => ?_)
       ·
        refine r_d rfl rfl rfl (s_fieldAddr rfl fl_api_Config_6 rfl rfl rfl rfl) ?_
        refine r_d rfl rfl rfl (s_load rfl rfl (by exact ty_bool) rfl) ?_
        refine r_d rfl rfl rfl (s_fieldAddr rfl fl_api_Config_6 rfl rfl rfl rfl) ?_
        refine r_d rfl rfl rfl (s_load rfl rfl (by exact ty_bool) rfl) ?_
        refine r_d rfl rfl rfl (s_cmpB rfl Tryz.underlying4 rfl rfl) ?_
        refine r_d rfl rfl rfl (s_pickT rfl rfl rfl) ?_
        refine r_d rfl rfl rfl (s_assign rfl rfl) ?_
        refine r_end ?_
        obtain rfl := Option.some.inj hr
        refine g_ret Tryz.func20 _ (.cons (resTmp rfl (Wk.refl _)) .nil) ?_
        rfl
       ·
        refine r_skip rfl rfl rfl ?_
        refine r_skip rfl rfl rfl ?_
        refine r_skip rfl rfl rfl ?_
        refine r_skip rfl rfl rfl ?_
        refine r_skip rfl rfl rfl ?_
        refine r_d rfl rfl rfl (s_pickF rfl rfl rfl) ?_
        refine r_d rfl rfl rfl (s_assign rfl rfl) ?_
        refine r_end ?_
        obtain rfl := Option.some.inj hr
        refine g_ret Tryz.func20 _ (.cons (resTmp rfl (Wk.refl _)) .nil) ?_
        rfl
      ·
       refine r_skip rfl rfl rfl ?_
       refine r_skip rfl rfl rfl ?_
       refine r_skip rfl rfl rfl ?_
       refine r_skip rfl rfl rfl ?_
       refine r_skip rfl rfl rfl ?_
       refine r_d rfl rfl rfl (s_pickF rfl rfl rfl) ?_
       refine r_d rfl rfl rfl (s_move rfl rfl) ?_
       refine r_skip rfl rfl rfl ?_
       refine r_skip rfl rfl rfl ?_
       refine r_skip rfl rfl rfl ?_
       refine r_skip rfl rfl rfl ?_
       refine r_skip rfl rfl rfl ?_
       refine r_d rfl rfl rfl (s_pickF rfl rfl rfl) ?_
       refine r_d rfl rfl rfl (s_assign rfl rfl) ?_
       refine r_end ?_
       obtain rfl := Option.some.inj hr
       refine g_ret Tryz.func20 _ (.cons (resTmp rfl (Wk.refl _)) .nil) ?_
       rfl
     ·
      refine r_skip rfl rfl rfl ?_
      refine r_skip rfl rfl rfl ?_
      refine r_skip rfl rfl rfl ?_
      refine r_skip rfl rfl rfl ?_
      refine r_skip rfl rfl rfl ?_
      refine r_d rfl rfl rfl (s_pickF rfl rfl rfl) ?_
      refine r_d rfl rfl rfl (s_move rfl rfl) ?_
      refine r_skip rfl rfl rfl ?_
      refine r_skip rfl rfl rfl ?_
      refine r_skip rfl rfl rfl ?_
      refine r_skip rfl rfl rfl ?_
      refine r_skip rfl rfl rfl ?_
      refine r_d rfl rfl rfl (s_pickF rfl rfl rfl) ?_
      refine r_d rfl rfl rfl (s_move rfl rfl) ?_
      refine r_skip rfl rfl rfl ?_
      refine r_skip rfl rfl rfl ?_
      refine r_skip rfl rfl rfl ?_
      refine r_skip rfl rfl rfl ?_
      refine r_skip rfl rfl rfl ?_
      refine r_d rfl rfl rfl (s_pickF rfl rfl rfl) ?_
      refine r_d rfl rfl rfl (s_assign rfl rfl) ?_
      refine r_end ?_
      obtain rfl := Option.some.inj hr
      refine g_ret Tryz.func20 _ (.cons (resTmp rfl (Wk.refl _)) .nil) ?_
      rfl
    ·
     refine r_skip rfl rfl rfl ?_
     refine r_skip rfl rfl rfl ?_
     refine r_skip rfl rfl rfl ?_
     refine r_skip rfl rfl rfl ?_
     refine r_skip rfl rfl rfl ?_
     refine r_d rfl rfl rfl (s_pickF rfl rfl rfl) ?_
     refine r_d rfl rfl rfl (s_move rfl rfl) ?_
     refine r_skip rfl rfl rfl ?_
     refine r_skip rfl rfl rfl ?_
     refine r_skip rfl rfl rfl ?_
     refine r_skip rfl rfl rfl ?_
     refine r_skip rfl rfl rfl ?_
     refine r_d rfl rfl rfl (s_pickF rfl rfl rfl) ?_
     refine r_d rfl rfl rfl (s_move rfl rfl) ?_
     refine r_skip rfl rfl rfl ?_
     refine r_skip rfl rfl rfl ?_
     refine r_skip rfl rfl rfl ?_
     refine r_skip rfl rfl rfl ?_
     refine r_skip rfl rfl rfl ?_
     refine r_d rfl rfl rfl (s_pickF rfl rfl rfl) ?_
     refine r_d rfl rfl rfl (s_move rfl rfl) ?_
     refine r_skip rfl rfl rfl ?_
     refine r_skip rfl rfl rfl ?_
     refine r_skip rfl rfl rfl ?_
     refine r_skip rfl rfl rfl ?_
     refine r_skip rfl rfl rfl ?_
     refine r_d rfl rfl rfl (s_pickF rfl rfl rfl) ?_
     refine r_d rfl rfl rfl (s_assign rfl rfl) ?_
     refine r_end ?_
     obtain rfl := Option.some.inj hr
     refine g_ret Tryz.func20 _ (.cons (resTmp rfl (Wk.refl _)) .nil) ?_
     rfl
   ·
    refine r_skip rfl rfl rfl ?_
    refine r_skip rfl rfl rfl ?_
    refine r_skip rfl rfl rfl ?_
    refine r_skip rfl rfl rfl ?_
    refine r_skip rfl rfl rfl ?_
    refine r_d rfl rfl rfl (s_pickF rfl rfl rfl) ?_
    refine r_d rfl rfl rfl (s_move rfl rfl) ?_
    refine r_skip rfl rfl rfl ?_
    refine r_skip rfl rfl rfl ?_
    refine r_skip rfl rfl rfl ?_
    refine r_skip rfl rfl rfl ?_
    refine r_skip rfl rfl rfl ?_
    refine r_d rfl rfl rfl (s_pickF rfl rfl rfl) ?_
    refine r_d rfl rfl rfl (s_move rfl rfl) ?_
    refine r_skip rfl rfl rfl ?_
    refine r_skip rfl rfl rfl ?_
    refine r_skip rfl rfl rfl ?_
    refine r_skip rfl rfl rfl ?_
    refine r_skip rfl rfl rfl ?_
    refine r_d rfl rfl rfl (s_pickF rfl rfl rfl) ?_
    refine r_d rfl rfl rfl (s_move rfl rfl) ?_
    refine r_skip rfl rfl rfl ?_
    refine r_skip rfl rfl rfl ?_
    refine r_skip rfl rfl rfl ?_
    refine r_skip rfl rfl rfl ?_
    refine r_skip rfl rfl rfl ?_
    refine r_d rfl rfl rfl (s_pickF rfl rfl rfl) ?_
    refine r_d rfl rfl rfl (s_move rfl rfl) ?_
    refine r_skip rfl rfl rfl ?_
    refine r_skip rfl rfl rfl ?_
    refine r_skip rfl rfl rfl ?_
    refine r_skip rfl rfl rfl ?_
    refine r_skip rfl rfl rfl ?_
    refine r_d rfl rfl rfl (s_pickF rfl rfl rfl) ?_
    refine r_d rfl rfl rfl (s_assign rfl rfl) ?_
    refine r_end ?_
    obtain rfl := Option.some.inj hr
    refine g_ret Tryz.func20 _ (.cons (resTmp rfl (Wk.refl _)) .nil) ?_
    rfl
  ·
   refine r_skip rfl rfl rfl ?_
   refine r_skip rfl rfl rfl ?_
   refine r_skip rfl rfl rfl ?_
   refine r_skip rfl rfl rfl ?_
   refine r_skip rfl rfl rfl ?_
   refine r_d rfl rfl rfl (s_pickF rfl rfl rfl) ?_
   refine r_d rfl rfl rfl (s_move rfl rfl) ?_
   refine r_skip rfl rfl rfl ?_
   refine r_skip rfl rfl rfl ?_
   refine r_skip rfl rfl rfl ?_
   refine r_skip rfl rfl rfl ?_
   refine r_skip rfl rfl rfl ?_
   refine r_d rfl rfl rfl (s_pickF rfl rfl rfl) ?_
   refine r_d rfl rfl rfl (s_move rfl rfl) ?_
   refine r_skip rfl rfl rfl ?_
   refine r_skip rfl rfl rfl ?_
   refine r_skip rfl rfl rfl ?_
   refine r_skip rfl rfl rfl ?_
   refine r_skip rfl rfl rfl ?_
   refine r_d rfl rfl rfl (s_pickF rfl rfl rfl) ?_
   refine r_d rfl rfl rfl (s_move rfl rfl) ?_
   refine r_skip rfl rfl rfl ?_
   refine r_skip rfl rfl rfl ?_
   refine r_skip rfl rfl rfl ?_
   refine r_skip rfl rfl rfl ?_
   refine r_skip rfl rfl rfl ?_
   refine r_d rfl rfl rfl (s_pickF rfl rfl rfl) ?_
   refine r_d rfl rfl rfl (s_move rfl rfl) ?_
   refine r_skip rfl rfl rfl ?_
   refine r_skip rfl rfl rfl ?_
   refine r_skip rfl rfl rfl ?_
   refine r_skip rfl rfl rfl ?_
   refine r_skip rfl rfl rfl ?_
   refine r_d rfl rfl rfl (s_pickF rfl rfl rfl) ?_
   refine r_d rfl rfl rfl (s_move rfl rfl) ?_
   refine r_skip rfl rfl rfl ?_
   refine r_skip rfl rfl rfl ?_
   refine r_skip rfl rfl rfl ?_
   refine r_skip rfl rfl rfl ?_
   refine r_skip rfl rfl rfl ?_
   refine r_d rfl rfl rfl (s_pickF rfl rfl rfl) ?_
   refine r_d rfl rfl rfl (s_assign rfl rfl) ?_
   refine r_end ?_
   obtain rfl := Option.some.inj hr
   refine g_ret Tryz.func20 _ (.cons (resTmp rfl (Wk.refl _)) .nil) ?_
   rfl

noncomputable def lf_constraintlaw52_SnapshotConfigs (fuel : Nat) (c_a0 : S_api_Config) : Option (Bool) :=
  ((lf_constraintlaw52_small c_a0).bind fun r_1 =>
  (bif (!r_1) then
  ((lf_constraintlaw52_exampleHolds fuel).bind fun r_3 =>
  some (r_3))
  else
  ((lf_snapshot_Config fuel c_a0).bind fun r_4 =>
  ((lf_constraintref52_Config fuel c_a0).bind fun r_5 =>
  ((lf_constraintlaw52_same r_4 r_5).bind fun r_6 =>
  (bif (!r_6) then
  some (false)
  else
  ((lf_snapshot_TakeConfig fuel r_4).bind fun r_8 =>
  (bif ((r_4.length : Int) == (0 : Int)) then
  (bif (r_8.2 == (4 : Int)) then
  ((lf_constraintlaw52_exampleHolds fuel).bind fun r_12 =>
  some (r_12))
  else
  some (false))
  else
  (bif (r_8.2 == (0 : Int)) then
  ((lf_constraintref26_Same c_a0 r_8.1).bind fun r_14 =>
  (bif r_14 then
  ((lf_constraintlaw52_exampleHolds fuel).bind fun r_16 =>
  some (r_16))
  else
  some (false)))
  else
  some (false))))))))))

set_option maxHeartbeats 1000000 in
theorem lg_constraintlaw52_SnapshotConfigs (fuel : Nat) (c_a0 : S_api_Config) (res : Bool) (hr : lf_constraintlaw52_SnapshotConfigs fuel c_a0 = some res) : Gives Tryz.prog 4 [enc_S_api_Config c_a0] (.bool res) := by
  unfold lf_constraintlaw52_SnapshotConfigs at hr
  refine spec_env [(0, enc_S_api_Config c_a0)] Tryz.func4 rfl rfl fun K hK => ?_
  refine g_seq ?_
  refine g_run (by kernel_rfl) [(0, .d), (1, .d)] rfl ?_
  refine r_d rfl rfl rfl (s_box rfl rfl rfl) ?_
  refine r_d rfl rfl rfl (s_assign rfl rfl) ?_
  refine r_end ?_
  refine g_seq ?_
  refine g_seq ?_
  refine g_run (by kernel_rfl) [(0, .d), (1, .d), (2, .d)] rfl ?_
  refine r_d rfl rfl rfl (s_load rfl rfl (by exact ty_api_Config) (sz_S_api_Config _)) ?_
  obtain ⟨r_1, hr_1, hr⟩ := bindS hr
  refine r_d rfl rfl rfl (s_callD rfl cl_constraintlaw52_small (.cons rfl (Wk.refl _) .nil) (lg_constraintlaw52_small _ _ hr_1)) ?_
  refine r_d rfl rfl rfl (s_not rfl rfl) ?_
  refine r_end ?_
  refine g_sB 8 rfl hr (fun h8_1 hr => ?_) (fun h8_1 hr => ?_)
  ·
   refine g_condT rfl ?_
   refine g_seq ?_
   refine g_run (by kernel_rfl) [(0, .d), (1, .d)] rfl ?_
   obtain ⟨r_3, hr_3, hr⟩ := bindS hr
   refine r_d rfl rfl rfl (s_callD rfl cl_constraintlaw52_exampleHolds .nil (lg_constraintlaw52_exampleHolds fuel _ hr_3)) ?_
   refine r_d rfl rfl rfl (s_assign rfl rfl) ?_
   refine r_end ?_
   obtain rfl := Option.some.inj hr
   refine g_ret Tryz.func4 _ (.cons (resTmp rfl (Wk.refl _)) .nil) ?_
   rfl
  ·
   refine g_condF rfl ?_
   refine g_skip ?_
   refine g_seq ?_
   refine g_run (by kernel_rfl) [(0, .d), (1, .d), (2, .d)] rfl ?_
   refine r_d rfl rfl rfl (s_load rfl rfl (by exact ty_api_Config) (sz_S_api_Config _)) ?_
   obtain ⟨r_4, hr_4, hr⟩ := bindS hr
   refine r_d rfl rfl rfl (s_callD rfl cl_snapshot_Config (.cons rfl (Wk.refl _) .nil) (lg_snapshot_Config fuel _ _ hr_4)) ?_
   refine r_d rfl rfl rfl (s_assign rfl rfl) ?_
   refine r_end ?_
   refine g_seq ?_
   refine g_seq ?_
   refine g_run (by kernel_rfl) [(0, .d), (1, .d), (2, .d), (3, .d), (4, .d)] rfl ?_
   refine r_d rfl rfl rfl (s_move rfl rfl) ?_
   refine r_d rfl rfl rfl (s_load rfl rfl (by exact ty_api_Config) (sz_S_api_Config _)) ?_
   obtain ⟨r_5, hr_5, hr⟩ := bindS hr
   refine r_d rfl rfl rfl (s_callD rfl cl_constraintref52_Config (.cons rfl (Wk.refl _) .nil) (lg_constraintref52_Config fuel _ _ hr_5)) ?_
   obtain ⟨r_6, hr_6, hr⟩ := bindS hr
   refine r_d rfl rfl rfl (s_callD rfl cl_constraintlaw52_same (.cons rfl (Wk.refl _) (.cons rfl (Wk.refl _) .nil)) (lg_constraintlaw52_same _ _ _ hr_6)) ?_
   refine r_d rfl rfl rfl (s_not rfl rfl) ?_
   refine r_end ?_
   refine g_sB 16 rfl hr (fun h16_6 hr => ?_) (fun h16_6 hr => ?_)
   ·
    refine g_condT rfl ?_
    refine g_seq ?_
    refine g_run (by kernel_rfl) [(0, .d)] rfl ?_
    refine r_d rfl rfl rfl (s_assign rfl rfl) ?_
    refine r_end ?_
    obtain rfl := Option.some.inj hr
    refine g_ret Tryz.func4 _ (.cons (resTmp rfl (Wk.refl _)) .nil) ?_
    rfl
   ·
    refine g_condF rfl ?_
    refine g_skip ?_
    refine g_seq ?_
    refine g_run (by kernel_rfl) [(0, .d), (1, .d), (2, .d), (3, .d), (4, .d), (5, .w), (6, .w), (7, .d)] rfl ?_
    refine r_d rfl rfl rfl (s_move rfl rfl) ?_
    obtain ⟨r_8, hr_8, hr⟩ := bindS hr
    refine r_d rfl rfl rfl (s_callD rfl cl_snapshot_TakeConfig (.cons rfl (Wk.refl _) .nil) (lg_snapshot_TakeConfig fuel _ _ hr_8)) ?_
    refine r_d rfl rfl rfl (s_move rfl rfl) ?_
    refine r_d rfl rfl rfl (s_extract rfl rfl rfl) ?_
    refine r_d rfl rfl rfl (s_extract rfl rfl rfl) ?_
    refine r_w rfl rfl rfl (s_alloc rfl zv_api_Config) ?_
    rintro _ _ ⟨b4_8, rfl, rfl⟩
    refine r_w01 rfl rfl rfl (t_store0 _ rfl rfl rfl (Wk.refl _) (pf0 _) (by exact ty_api_Config) (sz_S_api_Config _) rfl rfl) ?_
    refine r_d rfl rfl rfl (s_assign rfl rfl) ?_
    refine r_end ?_
    refine g_freeze 4 b4_8 rfl (pf0 _) ?_
    refine g_seq ?_
    refine g_seq ?_
    refine g_run (by kernel_rfl) [(0, .d), (1, .d), (2, .d)] rfl ?_
    refine r_d rfl rfl rfl (s_move rfl rfl) ?_
    refine r_d rfl rfl rfl (m_len (f := (D.int .u8)) r_4 rfl el_L_uint8 rfl (asl rfl)) ?_
    refine r_d rfl rfl rfl (s_cmp rfl rfl rfl rfl) ?_
    refine r_end ?_
    refine g_sB 24 rfl hr (fun h24_9 hr => ?_) (fun h24_9 hr => ?_)
    ·
     refine g_condT rfl ?_
     refine g_seq ?_
     refine g_run (by kernel_rfl) [(0, .d), (1, .d), (2, .d), (3, .d), (4, .d), (5, .d)] rfl ?_
     refine r_d rfl rfl rfl (s_move rfl rfl) ?_
     refine r_d rfl rfl rfl (s_cmp rfl rfl rfl rfl) ?_
     refine r_d rfl rfl rfl (s_move rfl rfl) ?_
     refine r_sB 27 rfl hr (fun h27_10 hr => ?_) (fun h27_10 hr => ?_)
     ·
      obtain ⟨r_12, hr_12, hr⟩ := bindS hr
      refine r_d rfl rfl rfl (s_callD rfl cl_constraintlaw52_exampleHolds .nil (lg_constraintlaw52_exampleHolds fuel _ hr_12)) ?_
      refine r_d rfl rfl rfl (s_pickT rfl rfl rfl) ?_
      refine r_d rfl rfl rfl (s_assign rfl rfl) ?_
      refine r_end ?_
      obtain rfl := Option.some.inj hr
      refine g_ret Tryz.func4 _ (.cons (resTmp rfl (Wk.refl _)) .nil) ?_
      rfl
     ·
      refine r_skip rfl rfl rfl ?_
      refine r_d rfl rfl rfl (s_pickF rfl rfl rfl) ?_
      refine r_d rfl rfl rfl (s_assign rfl rfl) ?_
      refine r_end ?_
      obtain rfl := Option.some.inj hr
      refine g_ret Tryz.func4 _ (.cons (resTmp rfl (Wk.refl _)) .nil) ?_
      rfl
    ·
     refine g_condF rfl ?_
     refine g_skip ?_
     refine g_seq ?_
     refine g_run (by kernel_rfl) [(0, .d), (1, .d), (2, .d), (3, .d), (4, .d), (5, .d), (6, .d), (7, .d), (8, .d), (9, .d), (10, .d)] rfl ?_
     refine r_d rfl rfl rfl (s_move rfl rfl) ?_
     refine r_d rfl rfl rfl (s_cmp rfl rfl rfl rfl) ?_
     refine r_d rfl rfl rfl (s_move rfl rfl) ?_
     refine r_sB 32 rfl hr (fun h32_12 hr => ?_) (fun h32_12 hr => ?_)
     ·
      refine r_d rfl rfl rfl (s_load rfl rfl (by exact ty_api_Config) (sz_S_api_Config _)) ?_
      refine r_d rfl rfl rfl (s_load rfl rfl (by exact ty_api_Config) (sz_S_api_Config _)) ?_
      obtain ⟨r_14, hr_14, hr⟩ := bindS hr
      refine r_d rfl rfl rfl (s_callD rfl cl_constraintref26_Same (.cons rfl (Wk.refl _) (.cons rfl (Wk.refl _) .nil)) (lg_constraintref26_Same _ _ _ hr_14)) ?_
      refine r_d rfl rfl rfl (s_pickT rfl rfl rfl) ?_
      refine r_d rfl rfl rfl (s_move rfl rfl) ?_
      refine r_sB 37 rfl hr (fun h37_14 hr => ?_) (fun h37_14 hr => ?_)
      ·
       obtain ⟨r_16, hr_16, hr⟩ := bindS hr
       refine r_d rfl rfl rfl (s_callD rfl cl_constraintlaw52_exampleHolds .nil (lg_constraintlaw52_exampleHolds fuel _ hr_16)) ?_
       refine r_d rfl rfl rfl (s_pickT rfl rfl rfl) ?_
       refine r_d rfl rfl rfl (s_assign rfl rfl) ?_
       refine r_end ?_
       obtain rfl := Option.some.inj hr
       refine g_ret Tryz.func4 _ (.cons (resTmp rfl (Wk.refl _)) .nil) ?_
       rfl
      ·
       refine r_skip rfl rfl rfl ?_
       refine r_d rfl rfl rfl (s_pickF rfl rfl rfl) ?_
       refine r_d rfl rfl rfl (s_assign rfl rfl) ?_
       refine r_end ?_
       obtain rfl := Option.some.inj hr
       refine g_ret Tryz.func4 _ (.cons (resTmp rfl (Wk.refl _)) .nil) ?_
       rfl
     ·
      refine r_skip rfl rfl rfl ?_
      refine r_skip rfl rfl rfl ?_
      refine r_skip rfl rfl rfl ?_
      refine r_d rfl rfl rfl (s_pickF rfl rfl rfl) ?_
      refine r_d rfl rfl rfl (s_move rfl rfl) ?_
      refine r_skip rfl rfl rfl ?_
      refine r_d rfl rfl rfl (s_pickF rfl rfl rfl) ?_
      refine r_d rfl rfl rfl (s_assign rfl rfl) ?_
      refine r_end ?_
      obtain rfl := Option.some.inj hr
      refine g_ret Tryz.func4 _ (.cons (resTmp rfl (Wk.refl _)) .nil) ?_
      rfl

end Go.Proofs.YtdoljfkjdfaakaaGreat


namespace Go.Proofs.YtdoljfkjdfaakaaGreat
set_option maxRecDepth 100000
open Go.RowKit

theorem at_pre {α : Type} (pre : List α) (q : α) (l : List α) : getI (pre ++ q :: l) (pre.length : Int) = some q := by
  rw [getI_nat]
  simp
theorem lt_pre {α : Type} (pre : List α) (q : α) (l : List α) : decide ((pre.length : Int) < ((pre ++ q :: l).length : Int)) = true := decide_eq_true (by simp only [List.length_append, List.length_cons]; omega)
theorem pre_snoc {α : Type} (pre : List α) (q : α) (l : List α) : pre ++ q :: l = (pre ++ [q]) ++ l := by simp
theorem len_snoc {α : Type} (pre : List α) (q : α) : pre.length + 1 = (pre ++ [q]).length := by simp
theorem eq_self (n : Int) : (n != n) = false := by simp
theorem cmpA_self (a : At) : (cmpA a a == 0) = true := by
  unfold cmpA
  rw [cmpS_eq, show cmpB a.n.toList a.n.toList = 0 by have := neg_B a.n.toList a.n.toList; omega, cmpI_self, cmpL_self]
  rfl
theorem sameG_self (g : Gl) : sameG g g = true := by unfold sameG; rw [cmpL_self]; simp
theorem sameT_self (t : T) : sameT t t = true := by unfold sameT; rw [cmp_self]; rfl
theorem xA_self (a : At) (h : wtL a.ts ≤ 1000000000) : x_sameA a a = some true := by rw [x_sameA_eq _ _ h, cmpA_self]
theorem xG_self (a : Gl) (h : wtL a.ts ≤ 1000000000) : x_sameG a a = some true := by rw [x_sameG_eq _ _ h, sameG_self]
theorem xT_self (a : T) (h : wt a ≤ 1000000000) : x_sameT a a = some true := by rw [x_sameT_eq _ _ h, sameT_self]
theorem ints21_self (n : Int) : lf_constraintref21_ints n n = some 0 := by
  unfold lf_constraintref21_ints
  simp

theorem len_self (n : Nat) : ((n : Int) != (n : Int)) = false := by simp
theorem frames_L (k : Option Bool) : ∀ (l pre : List S_api_Frame), (∀ q ∈ l, wtL q.f0_Goal.ts ≤ 1000000000) → lf_constraintref26_sameFrames_L0 k (pre ++ l) l pre.length = k
  | [], pre, _ => by rw [lf_constraintref26_sameFrames_L0]
  | q :: l, pre, h => by
    rw [lf_constraintref26_sameFrames_L0]
    have hq := h q (by simp)
    simp only [lt_pre, at_pre, Option.bind_some, eq_self, xG_self q.f0_Goal hq, Bool.not_true, cond_true, cond_false]
    have := frames_L k l (pre ++ [q]) fun x hx => h x (by simp [hx])
    rw [← pre_snoc, ← len_snoc] at this
    exact this
theorem items_L (k : Option Bool) : ∀ (l pre : List (Int × At)), (∀ q ∈ l, wtL q.2.ts ≤ 1000000000) → lf_constraintref19_Same_L0 k (pre ++ l) l pre.length = k
  | [], pre, _ => by rw [lf_constraintref19_Same_L0]
  | q :: l, pre, h => by
    rw [lf_constraintref19_Same_L0]
    have hq := h q (by simp)
    simp only [lt_pre, at_pre, Option.bind_some, eq_self, xA_self q.2 hq, Bool.not_true, cond_true, cond_false]
    have := items_L k l (pre ++ [q]) fun x hx => h x (by simp [hx])
    rw [← pre_snoc, ← len_snoc] at this
    exact this
theorem binds_L (k : Option Bool) : ∀ (l pre : List (Int × T)), (∀ q ∈ l, wt q.2 ≤ 1000000000) → lf_constraintref06_Same_L0 k (pre ++ l) l pre.length = k
  | [], pre, _ => by rw [lf_constraintref06_Same_L0]
  | q :: l, pre, h => by
    rw [lf_constraintref06_Same_L0]
    have hq := h q (by simp)
    simp only [lt_pre, at_pre, Option.bind_some, eq_self, xT_self q.2 hq, Bool.not_true, cond_true, cond_false]
    have := binds_L k l (pre ++ [q]) fun x hx => h x (by simp [hx])
    rw [← pre_snoc, ← len_snoc] at this
    exact this
theorem cmp21_L (k : Int → Option Int) (r : Int) : ∀ (l pre : List Int), lf_constraintref21_Compare_L0 k ⟨r, pre ++ l⟩ l 0 pre.length = k 0
  | [], pre => by rw [lf_constraintref21_Compare_L0]
  | q :: l, pre => by
    rw [lf_constraintref21_Compare_L0]
    simp only [lt_pre, at_pre, Option.bind_some, ints21_self, beq_self_eq_true, cond_true]
    have := cmp21_L k r l (pre ++ [q])
    rw [← pre_snoc, ← len_snoc] at this
    exact this
theorem fire_self (x : S_api_Fire) : lf_constraintref21_Compare x x = some 0 := by
  obtain ⟨r, l⟩ := x
  unfold lf_constraintref21_Compare lf_constraintref21_Compare_J0
  simp only [ints21_self, Option.bind_some, beq_self_eq_true, cond_true]
  exact cmp21_L (fun c => some c) r l []
theorem fired_L (k : Option Bool) : ∀ (l pre : List S_api_Fire), lf_constraintref21_Same_L0 k (pre ++ l) l pre.length = k
  | [], pre => by rw [lf_constraintref21_Same_L0]
  | q :: l, pre => by
    rw [lf_constraintref21_Same_L0]
    simp only [lt_pre, at_pre, Option.bind_some, fire_self q, eq_self, Bool.not_true, cond_true, cond_false]
    have := fired_L k l (pre ++ [q])
    rw [← pre_snoc, ← len_snoc] at this
    exact this
theorem config_self (c : S_api_Config) (h1 : ∀ q ∈ c.f0_Stack, wtL q.f0_Goal.ts ≤ 1000000000) (h2 : ∀ q ∈ c.f1_Store, wtL q.2.ts ≤ 1000000000) (h3 : ∀ q ∈ c.f2_Binds, wt q.2 ≤ 1000000000) : lf_constraintref26_Same c c = some true := by
  unfold lf_constraintref26_Same lf_constraintref26_sameFrames lf_constraintref19_Same lf_constraintref06_Same lf_constraintref21_Same
  simp only [len_self, cond_false]
  have e1 := frames_L (some true) c.f0_Stack [] h1
  have e2 := items_L (some true) c.f1_Store [] h2
  have e3 := binds_L (some true) c.f2_Binds [] h3
  have e4 := fired_L (some true) c.f3_Fired []
  simp only [List.nil_append, List.length_nil] at e1 e2 e3 e4
  simp only [e1, e2, e3, e4, Option.bind_some, cond_true, beq_self_eq_true]
end Go.Proofs.YtdoljfkjdfaakaaGreat

