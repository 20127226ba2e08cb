/-
  Texts of the seat, merged.
-/
import Derived.Test.YtdoljfkjdfaakaaGreatLBA
import Derived.Test.YtdoljfkjdfaakaaGreatLBB
import Derived.Test.YtdoljfkjdfaakaaGreatLBC
import Derived.Test.YtdoljfkjdfaakaaGreatChecked
import Derived.WalkKit
import Derived.Lib.Hide
import Derived.Lib.AppendStr
import Derived.Deep.AppendLies
import Derived.Deep.AppendSrc
import Derived.Deep.Draws
import Derived.Deep.QuietTactic
import Derived.BigQuiet
import Derived.Deep.RegionWith
import Derived.Maps.AppendAt
import Derived.WalkSpells
import Derived.Orders
import Derived.Deep.Slices
import Derived.Deep.Fields
import Derived.ChangeArms
import Derived.Lib.OthersKept
import Derived.Lib.TrimU
import Derived.Lib.IndexAny
import Derived.Deep.LoopGhost
import Derived.Lib.Bytealg
import Derived.RangeFuncBox
import Derived.RangeFuncNested
import Derived.RangeFuncBound
import Derived.RangeFuncCalls
import Derived.RangeFuncLeaves
import Derived.Shelf.Abstract
import Derived.OwnWalkIn
import Derived.TacticsInMore
import Derived.LoopNIn
import Derived.LoopIn
import Derived.RangeFuncWrites
import Derived.Maps.OwnIn
import Derived.Maps.Views
import Derived.Laws.OwnMore
import Derived.Maps.OwnSet
import Derived.Laws.IdiomStrings
import Derived.Test.YtdoljfkjdfaakaaGreatRows
import Derived.ProofKit
import Derived.OpenShut
import Derived.Carry
import Derived.OrdersIn
import Derived.Great.BuildSlice
import Derived.ArgAppend
import Derived.Laws.MakeOwn
import Derived.Laws.Cover3
import Derived.Laws.CopyRow
import Derived.MapKept
import Derived.Maps.RangeRun
import Derived.DeepKeys5
import Derived.WideKeyRuns
import Derived.RangeFuncOwn
import Derived.Defers
import Derived.Recover
set_option linter.unusedVariables false
set_option linter.unusedSimpArgs false
set_option linter.unnecessarySimpa false
set_option linter.all false

namespace Go.Proofs.YtdoljfkjdfaakaaGreat
set_option maxRecDepth 100000
open Go.RowKit

structure S_snapshot_reader where
  f0_b : (List Int)
  f1_at : Int

def enc_S_snapshot_reader (x : S_snapshot_reader) : D := .agg [.lst (x.f0_b.map (D.int .u8)), .int .i64 x.f1_at]

noncomputable def lf_Psnapshot_reader_done_s1 (next_a1 : Int) (e_a2 : Int) (c_0 : S_snapshot_reader) : Option (Int ⊕ (S_snapshot_reader)) :=
  (bif (e_a2 != (0 : Int)) then
  some (.inl e_a2)
  else
  some (.inr ((⟨c_0.f0_b, next_a1⟩ : S_snapshot_reader))))

set_option maxHeartbeats 1000000 in
theorem lg_Psnapshot_reader_done_s1 (next_a1 : Int) (e_a2 : Int) (c_0 : S_snapshot_reader) (b_o0 : Nat) (res : Int ⊕ (S_snapshot_reader)) (hr : lf_Psnapshot_reader_done_s1 next_a1 e_a2 c_0 = some res) : SpecX Tryz.prog 141 [.ref b_o0 0 [], .int .i64 next_a1, .int .i64 e_a2] [.cell b_o0 (enc_S_snapshot_reader c_0)] (fun d σ => ∃ r : S_snapshot_reader, res = .inr r ∧ d = .tup [] ∧ σ = [.cell b_o0 (enc_S_snapshot_reader r)]) (fun d => ∃ c, res = .inl c ∧ d = .ifc 191 (.agg [.int .i64 c])) := by
  unfold lf_Psnapshot_reader_done_s1 at hr
  refine spec_envX [(0, .ref b_o0 0 []), (1, .int .i64 next_a1), (2, .int .i64 e_a2)] Tryz.func141 rfl rfl fun K hK hX => ?_
  refine g_seq ?_
  refine g_seq ?_
  refine g_run (by kernel_rfl) [(0, .d), (1, .d)] rfl ?_
  refine r_d rfl rfl rfl (s_move rfl rfl) ?_
  refine r_d rfl rfl rfl (s_cmp rfl rfl rfl rfl) ?_
  refine r_end ?_
  refine g_sB 7 rfl hr (fun h7_0 hr => ?_) (fun h7_0 hr => ?_)
  ·
   refine g_condT rfl ?_
   refine g_run (by kernel_rfl) [(0, .d), (1, .d), (2, .d), (3, .w)] rfl ?_
   refine r_d rfl rfl rfl (s_move rfl rfl) ?_
   refine r_d rfl rfl rfl (s_build rfl bt_snapshot_failure (.cons rfl (Wk.refl _) .nil) (.cons rfl rfl rfl (.nil _))) ?_
   refine r_d rfl rfl rfl (s_makeIfc rfl Tryz.underlying191 rfl) ?_
   obtain rfl := Option.some.inj hr
   refine r_die rfl rfl (s_panic rfl rfl) (hX _ ⟨_, rfl, rfl⟩)
  ·
   refine g_condF rfl ?_
   refine g_skip ?_
   refine g_run (by kernel_rfl) [(0, .d), (1, .d), (2, .d), (3, .d), (4, .w)] rfl ?_
   refine r_d rfl rfl rfl (s_move rfl rfl) ?_
   refine r_d rfl rfl rfl (s_move rfl rfl) ?_
   refine r_d rfl rfl rfl (s_nilCheckR rfl rfl) ?_
   refine r_d rfl rfl rfl (s_fieldRef rfl fl_snapshot_reader_1 rfl) ?_
   refine r_w01 rfl rfl rfl (t_store _ rfl rfl rfl (Wk.refl _) (pf0 _) rfl rfl (by exact ty_int) rfl rfl rfl) ?_
   refine r_end ?_
   obtain rfl := Option.some.inj hr
   refine g_end Tryz.func141 _ .nil ?_
   exact ⟨_, rfl, rfl, rfl⟩

noncomputable def lf_Psnapshot_reader_number_s1 (low_a1 : Int) (high_a2 : Int) (c_0 : S_snapshot_reader) : Option (Int ⊕ (Int × S_snapshot_reader)) :=
  ((x_cInt c_0.f0_b c_0.f1_at low_a1 high_a2).bind fun r_1 =>
  (bindX (lf_Psnapshot_reader_done_s1 r_1.2.1 r_1.2.2 c_0) fun r_2 =>
  some (.inr (r_1.1, r_2))))

set_option maxHeartbeats 1000000 in
theorem lg_Psnapshot_reader_number_s1 (low_a1 : Int) (high_a2 : Int) (c_0 : S_snapshot_reader) (b_o0 : Nat) (res : Int ⊕ (Int × S_snapshot_reader)) (hr : lf_Psnapshot_reader_number_s1 low_a1 high_a2 c_0 = some res) : SpecX Tryz.prog 51 [.ref b_o0 0 [], .int .i64 low_a1, .int .i64 high_a2] [.cell b_o0 (enc_S_snapshot_reader c_0)] (fun d σ => ∃ r : Int × S_snapshot_reader, res = .inr r ∧ d = .int .i64 r.1 ∧ σ = [.cell b_o0 (enc_S_snapshot_reader r.2)]) (fun d => ∃ c, res = .inl c ∧ d = .ifc 191 (.agg [.int .i64 c])) := by
  unfold lf_Psnapshot_reader_number_s1 at hr
  refine spec_envX [(0, .ref b_o0 0 []), (1, .int .i64 low_a1), (2, .int .i64 high_a2)] Tryz.func51 rfl rfl fun K hK hX => ?_
  refine g_seq ?_
  refine g_run (by kernel_rfl) [(0, .d)] rfl ?_
  refine r_d rfl rfl rfl (s_assign rfl rfl) ?_
  refine r_end ?_
  refine g_seq ?_
  refine g_anyX (by kernel_rfl) (by kernel_rfl) [(0, .d), (1, .d), (2, .d), (3, .r), (4, .d), (5, .d), (6, .d), (7, .r), (8, .d), (9, .d), (10, .d), (11, .d), (12, .d), (13, .d), (14, .d), (15, .d), (16, .d), (17, .d)] (by kernel_rfl) ?_
  refine r_d rfl rfl rfl (s_move rfl rfl) ?_
  refine r_d rfl rfl rfl (s_nilCheckR rfl rfl) ?_
  refine r_d rfl rfl rfl (s_fieldRef rfl fl_snapshot_reader_0 rfl) ?_
  refine r_r rfl rfl rfl (t_loadRef rfl rfl (.head _) rfl rfl (by exact ty_L_uint8) rfl) ?_
  refine r_d rfl rfl rfl (s_move rfl rfl) ?_
  refine r_d rfl rfl rfl (s_nilCheckR rfl rfl) ?_
  refine r_d rfl rfl rfl (s_fieldRef rfl fl_snapshot_reader_1 rfl) ?_
  refine r_r rfl rfl rfl (t_loadRef rfl rfl (.head _) rfl rfl (by exact ty_int) rfl) ?_
  refine r_d rfl rfl rfl (s_move rfl rfl) ?_
  refine r_d rfl rfl rfl (s_move rfl rfl) ?_
  obtain ⟨r_1, hr_1, hr⟩ := bindS hr
  refine r_d rfl rfl rfl (s_callD rfl cl_codec_Int (.cons rfl (Wk.refl _) (.cons rfl (Wk.refl _) (.cons rfl (Wk.refl _) (.cons rfl (Wk.refl _) .nil)))) (lx_codec_Int _ _ _ _ _ hr_1)) ?_
  refine r_d rfl rfl rfl (s_move rfl rfl) ?_
  refine r_d rfl rfl rfl (s_extract rfl rfl rfl) ?_
  refine r_d rfl rfl rfl (s_extract rfl rfl rfl) ?_
  refine r_d rfl rfl rfl (s_extract rfl rfl rfl) ?_
  refine r_d rfl rfl rfl (s_assign rfl rfl) ?_
  refine r_d rfl rfl rfl (s_assign rfl rfl) ?_
  refine r_d rfl rfl rfl (s_assign rfl rfl) ?_
  refine r_end ?_
  refine g_seq ?_
  refine g_run (by kernel_rfl) [(0, .d), (1, .d), (2, .d), (3, .w)] rfl ?_
  refine r_d rfl rfl rfl (s_move rfl rfl) ?_
  refine r_d rfl rfl rfl (s_move rfl rfl) ?_
  refine r_d rfl rfl rfl (s_move rfl rfl) ?_
  rcases bindXS hr with ⟨c_r_2, hr_2, rfl⟩ | ⟨r_2, hr_2, hr⟩
  ·
   refine r_die rfl rfl (s_callX _ rfl cl_Psnapshot_reader_done (.cons rfl (Wk.refl _) (.cons rfl (Wk.refl _) (.cons rfl (Wk.refl _) .nil))) (by exact (pf0 _)) (specX_inl (lg_Psnapshot_reader_done_s1 _ _ _ _ _ hr_2))) (hX _ ⟨_, rfl, rfl⟩)
  ·
   refine r_w rfl rfl rfl (s_call _ rfl cl_Psnapshot_reader_done (.cons rfl (Wk.refl _) (.cons rfl (Wk.refl _) (.cons rfl (Wk.refl _) .nil))) (by exact (pf0 _)) (specX_inr (lg_Psnapshot_reader_done_s1 _ _ _ _ _ hr_2))) ?_
   rintro _ _ ⟨_, ⟨rfl, rfl⟩, rfl⟩
   refine r_st ((.cell b_o0 (enc_S_snapshot_reader r_2)) :: _) rfl ?_
   refine r_end ?_
   refine g_seq ?_
   refine g_run (by kernel_rfl) [(0, .d), (1, .d)] rfl ?_
   refine r_d rfl rfl rfl (s_move rfl rfl) ?_
   refine r_d rfl rfl rfl (s_assign rfl rfl) ?_
   refine r_end ?_
   obtain rfl := Option.some.inj hr
   refine g_ret Tryz.func51 _ (.cons (resTmp rfl (Wk.refl _)) .nil) ?_
   exact ⟨_, rfl, rfl, rfl⟩

noncomputable def lf_Psnapshot_reader_text_s1 (c_0 : S_snapshot_reader) : Option (Int ⊕ (ByteArray × S_snapshot_reader)) :=
  ((x_cText c_0.f0_b c_0.f1_at 40).bind fun r_1 =>
  (bindX (lf_Psnapshot_reader_done_s1 r_1.2.1 r_1.2.2 c_0) fun r_2 =>
  some (.inr (r_1.1, r_2))))

set_option maxHeartbeats 1000000 in
theorem lg_Psnapshot_reader_text_s1 (c_0 : S_snapshot_reader) (b_o0 : Nat) (res : Int ⊕ (ByteArray × S_snapshot_reader)) (hr : lf_Psnapshot_reader_text_s1 c_0 = some res) : SpecX Tryz.prog 50 [.ref b_o0 0 []] [.cell b_o0 (enc_S_snapshot_reader c_0)] (fun d σ => ∃ r : ByteArray × S_snapshot_reader, res = .inr r ∧ d = .str r.1 ∧ σ = [.cell b_o0 (enc_S_snapshot_reader r.2)]) (fun d => ∃ c, res = .inl c ∧ d = .ifc 191 (.agg [.int .i64 c])) := by
  unfold lf_Psnapshot_reader_text_s1 at hr
  refine spec_envX [(0, .ref b_o0 0 [])] Tryz.func50 rfl rfl fun K hK hX => ?_
  refine g_seq ?_
  refine g_run (by kernel_rfl) [(0, .d)] rfl ?_
  refine r_d rfl rfl rfl (s_assign rfl rfl) ?_
  refine r_end ?_
  refine g_seq ?_
  refine g_anyX (by kernel_rfl) (by kernel_rfl) [(0, .d), (1, .d), (2, .d), (3, .r), (4, .d), (5, .d), (6, .d), (7, .r), (8, .d), (9, .d), (10, .d), (11, .d), (12, .d), (13, .d), (14, .d), (15, .d)] (by kernel_rfl) ?_
  refine r_d rfl rfl rfl (s_move rfl rfl) ?_
  refine r_d rfl rfl rfl (s_nilCheckR rfl rfl) ?_
  refine r_d rfl rfl rfl (s_fieldRef rfl fl_snapshot_reader_0 rfl) ?_
  refine r_r rfl rfl rfl (t_loadRef rfl rfl (.head _) rfl rfl (by exact ty_L_uint8) rfl) ?_
  refine r_d rfl rfl rfl (s_move rfl rfl) ?_
  refine r_d rfl rfl rfl (s_nilCheckR rfl rfl) ?_
  refine r_d rfl rfl rfl (s_fieldRef rfl fl_snapshot_reader_1 rfl) ?_
  refine r_r rfl rfl rfl (t_loadRef rfl rfl (.head _) rfl rfl (by exact ty_int) rfl) ?_
  obtain ⟨r_1, hr_1, hr⟩ := bindS hr
  refine r_d rfl rfl rfl (s_callD rfl cl_codec_Text (.cons rfl (Wk.refl _) (.cons rfl (Wk.refl _) (.cons rfl (Wk.refl _) .nil))) (lx_codec_Text _ _ _ _ hr_1)) ?_
  refine r_d rfl rfl rfl (s_move rfl rfl) ?_
  refine r_d rfl rfl rfl (s_extract rfl rfl rfl) ?_
  refine r_d rfl rfl rfl (s_extract rfl rfl rfl) ?_
  refine r_d rfl rfl rfl (s_extract rfl rfl rfl) ?_
  refine r_d rfl rfl rfl (s_assign rfl rfl) ?_
  refine r_d rfl rfl rfl (s_assign rfl rfl) ?_
  refine r_d rfl rfl rfl (s_assign rfl rfl) ?_
  refine r_end ?_
  refine g_seq ?_
  refine g_run (by kernel_rfl) [(0, .d), (1, .d), (2, .d), (3, .w)] rfl ?_
  refine r_d rfl rfl rfl (s_move rfl rfl) ?_
  refine r_d rfl rfl rfl (s_move rfl rfl) ?_
  refine r_d rfl rfl rfl (s_move rfl rfl) ?_
  rcases bindXS hr with ⟨c_r_2, hr_2, rfl⟩ | ⟨r_2, hr_2, hr⟩
  ·
   refine r_die rfl rfl (s_callX _ rfl cl_Psnapshot_reader_done (.cons rfl (Wk.refl _) (.cons rfl (Wk.refl _) (.cons rfl (Wk.refl _) .nil))) (by exact (pf0 _)) (specX_inl (lg_Psnapshot_reader_done_s1 _ _ _ _ _ hr_2))) (hX _ ⟨_, rfl, rfl⟩)
  ·
   refine r_w rfl rfl rfl (s_call _ rfl cl_Psnapshot_reader_done (.cons rfl (Wk.refl _) (.cons rfl (Wk.refl _) (.cons rfl (Wk.refl _) .nil))) (by exact (pf0 _)) (specX_inr (lg_Psnapshot_reader_done_s1 _ _ _ _ _ hr_2))) ?_
   rintro _ _ ⟨_, ⟨rfl, rfl⟩, rfl⟩
   refine r_st ((.cell b_o0 (enc_S_snapshot_reader r_2)) :: _) rfl ?_
   refine r_end ?_
   refine g_seq ?_
   refine g_run (by kernel_rfl) [(0, .d), (1, .d)] rfl ?_
   refine r_d rfl rfl rfl (s_move rfl rfl) ?_
   refine r_d rfl rfl rfl (s_assign rfl rfl) ?_
   refine r_end ?_
   obtain rfl := Option.some.inj hr
   refine g_ret Tryz.func50 _ (.cons (resTmp rfl (Wk.refl _)) .nil) ?_
   exact ⟨_, rfl, rfl, rfl⟩

noncomputable def lf_snapshot_TakeProgram_1_1_s1 (c_0 : S_snapshot_reader) : Option (Int ⊕ (S_api_Decl × S_snapshot_reader)) :=
  (bindX (lf_Psnapshot_reader_text_s1 c_0) fun r_2 =>
  (bindX (lf_Psnapshot_reader_number_s1 0 6 r_2.2) fun r_3 =>
  some (.inr ((⟨r_2.1, r_3.1⟩ : S_api_Decl), r_3.2))))

set_option maxHeartbeats 1000000 in
theorem lg_snapshot_TakeProgram_1_1_s1 (c_0 : S_snapshot_reader) (b_o0 : Nat) (res : Int ⊕ (S_api_Decl × S_snapshot_reader)) (hr : lf_snapshot_TakeProgram_1_1_s1 c_0 = some res) : SpecX Tryz.prog 49 [.ptr (.ref b_o0 0 [])] [.cell b_o0 (enc_S_snapshot_reader c_0)] (fun d σ => ∃ r : S_api_Decl × S_snapshot_reader, res = .inr r ∧ d = enc_S_api_Decl r.1 ∧ σ = [.cell b_o0 (enc_S_snapshot_reader r.2)]) (fun d => ∃ c, res = .inl c ∧ d = .ifc 191 (.agg [.int .i64 c])) := by
  unfold lf_snapshot_TakeProgram_1_1_s1 at hr
  refine spec_envX [(0, .ptr (.ref b_o0 0 []))] Tryz.func49 rfl rfl fun K hK hX => ?_
  refine g_seq ?_
  refine g_run (by kernel_rfl) [(0, .w)] rfl ?_
  refine r_w rfl rfl rfl (s_alloc rfl zv_api_Decl) ?_
  rintro _ _ ⟨b1_0, rfl, rfl⟩
  refine r_end ?_
  refine g_seq ?_
  refine g_run (by kernel_rfl) [(0, .d), (1, .w), (2, .d)] rfl ?_
  refine r_d rfl rfl rfl (s_load rfl rfl (by exact ty_P_snapshot_reader) rfl) ?_
  rcases bindXS hr with ⟨c_r_2, hr_2, rfl⟩ | ⟨r_2, hr_2, hr⟩
  ·
   refine r_die rfl rfl (s_callX _ rfl cl_Psnapshot_reader_text (.cons rfl (Wk.refl _) .nil) (by exact (pf1 _ _ _)) (specX_inl (lg_Psnapshot_reader_text_s1 _ _ _ hr_2))) (hX _ ⟨_, rfl, rfl⟩)
  ·
   refine r_w rfl rfl rfl (s_call _ rfl cl_Psnapshot_reader_text (.cons rfl (Wk.refl _) .nil) (by exact (pf1 _ _ _)) (specX_inr (lg_Psnapshot_reader_text_s1 _ _ _ hr_2))) ?_
   rintro _ _ ⟨_, ⟨rfl, rfl⟩, rfl⟩
   refine r_st ((.cell b_o0 (enc_S_snapshot_reader r_2.2)) :: _) rfl ?_
   refine r_d rfl rfl rfl (s_assign rfl rfl) ?_
   refine r_end ?_
   refine g_seq ?_
   refine g_run (by kernel_rfl) [(0, .d), (1, .d), (2, .w), (3, .d), (4, .w)] rfl ?_
   refine r_d rfl rfl rfl (s_move rfl rfl) ?_
   refine r_d rfl rfl rfl (s_load rfl rfl (by exact ty_P_snapshot_reader) rfl) ?_
   rcases bindXS hr with ⟨c_r_3, hr_3, rfl⟩ | ⟨r_3, hr_3, hr⟩
   ·
    refine r_die rfl rfl (s_callX _ rfl cl_Psnapshot_reader_number (.cons rfl (Wk.refl _) (.cons rfl (Wk.refl _) (.cons rfl (Wk.refl _) .nil))) (by exact (pf0 _)) (specX_inl (lg_Psnapshot_reader_number_s1 _ _ _ _ _ hr_3))) (hX _ ⟨_, rfl, rfl⟩)
   ·
    refine r_w rfl rfl rfl (s_call _ rfl cl_Psnapshot_reader_number (.cons rfl (Wk.refl _) (.cons rfl (Wk.refl _) (.cons rfl (Wk.refl _) .nil))) (by exact (pf0 _)) (specX_inr (lg_Psnapshot_reader_number_s1 _ _ _ _ _ hr_3))) ?_
    rintro _ _ ⟨_, ⟨rfl, rfl⟩, rfl⟩
    refine r_st ((.cell b_o0 (enc_S_snapshot_reader r_3.2)) :: _) rfl ?_
    refine r_d rfl rfl rfl (s_build rfl bt_api_Decl (.cons rfl (Wk.refl _) (.cons rfl (Wk.refl _) .nil)) (.cons rfl rfl rfl (.cons rfl rfl rfl (.nil _)))) ?_
    refine r_w01 rfl rfl rfl (t_store0 _ rfl rfl rfl (Wk.refl _) (pf1 _ _ _) (by exact ty_api_Decl) rfl rfl rfl) ?_
    refine r_end ?_
    refine g_freeze 1 b1_0 rfl (pf0 _) ?_
    obtain rfl := Option.some.inj hr
    refine g_ret Tryz.func49 _ (.cons (resPtr rfl (by exact ty_api_Decl) rfl (Wk.refl _)) .nil) ?_
    exact ⟨_, rfl, rfl, rfl⟩

noncomputable def lf_snapshot_take_s2_L0 (k : ((List S_api_Decl)) → (S_snapshot_reader) → Option (Int ⊕ ((List S_api_Decl) × S_snapshot_reader))) : Nat → (List S_api_Decl) → S_snapshot_reader → Option (Int ⊕ ((List S_api_Decl) × S_snapshot_reader))
  | 0, out_5, r_7 =>
  (k out_5 r_7)
  | rest + 1, out_5, r_7 =>
  (bindX (lf_snapshot_TakeProgram_1_1_s1 r_7) fun r_11 =>
  ((appO 24 out_5 [r_11.1]).bind fun l_12 =>
  (lf_snapshot_take_s2_L0 k rest l_12 r_11.2)))
noncomputable def lf_snapshot_take_s2 (most_a1 : Int) (c_0 : S_snapshot_reader) : Option (Int ⊕ ((List S_api_Decl) × S_snapshot_reader)) :=
  (bindX (lf_Psnapshot_reader_number_s1 0 most_a1 c_0) fun r_3 =>
  (lf_snapshot_take_s2_L0 (fun out_9 r_10 =>
  some (.inr (out_9, r_10))) (r_3.1 - 0 : Int).toNat [] r_3.2))

set_option maxHeartbeats 1000000 in
theorem lg_snapshot_take_s2 (most_a1 : Int) (c_0 : S_snapshot_reader) (b_o0 : Nat) (res : Int ⊕ ((List S_api_Decl) × S_snapshot_reader)) (hr : lf_snapshot_take_s2 most_a1 c_0 = some res) : SpecX Tryz.prog 48 [.ref b_o0 0 [], .int .i64 most_a1, .clo (.func 49) [] [.ptr (.ref b_o0 0 [])]] [.cell b_o0 (enc_S_snapshot_reader c_0)] (fun d σ => ∃ r : (List S_api_Decl) × S_snapshot_reader, res = .inr r ∧ d = .lst (r.1.map enc_S_api_Decl) ∧ σ = [.cell b_o0 (enc_S_snapshot_reader r.2)]) (fun d => ∃ c, res = .inl c ∧ d = .ifc 191 (.agg [.int .i64 c])) := by
  unfold lf_snapshot_take_s2 at hr
  refine spec_envX [(0, .ref b_o0 0 []), (1, .int .i64 most_a1), (2, .clo (.func 49) [] [.ptr (.ref b_o0 0 [])])] Tryz.func48 rfl rfl fun K hK hX => ?_
  refine g_seq ?_
  refine g_run (by kernel_rfl) [(0, .w)] rfl ?_
  refine r_w rfl rfl rfl (s_nilOwn 29 2 (.inl rfl)) ?_
  rintro _ _ ⟨u6_0, rfl, rfl⟩
  refine r_end ?_
  refine g_seq ?_
  refine g_run (by kernel_rfl) [(0, .w)] rfl ?_
  refine r_w rfl rfl rfl (s_nilOwn 29 2 (.inl rfl)) ?_
  rintro _ _ ⟨u7_1, rfl, rfl⟩
  refine r_end ?_
  refine g_seq ?_
  refine g_seq ?_
  refine g_run (by kernel_rfl) [(0, .d), (1, .d), (2, .w), (3, .d)] rfl ?_
  refine r_d rfl rfl rfl (s_move rfl rfl) ?_
  refine r_d rfl rfl rfl (s_move rfl rfl) ?_
  rcases bindXS hr with ⟨c_r_3, hr_3, rfl⟩ | ⟨r_3, hr_3, hr⟩
  ·
   refine r_die rfl rfl (s_callX _ rfl cl_Psnapshot_reader_number (.cons rfl (Wk.refl _) (.cons rfl (Wk.refl _) (.cons rfl (Wk.refl _) .nil))) (by exact (pf2 _ _ _ _)) (specX_inl (lg_Psnapshot_reader_number_s1 _ _ _ _ _ hr_3))) (hX _ ⟨_, rfl, rfl⟩)
  ·
   refine r_w rfl rfl rfl (s_call _ rfl cl_Psnapshot_reader_number (.cons rfl (Wk.refl _) (.cons rfl (Wk.refl _) (.cons rfl (Wk.refl _) .nil))) (by exact (pf2 _ _ _ _)) (specX_inr (lg_Psnapshot_reader_number_s1 _ _ _ _ _ hr_3))) ?_
   rintro _ _ ⟨_, ⟨rfl, rfl⟩, rfl⟩
   refine r_st ((.cell b_o0 (enc_S_snapshot_reader r_3.2)) :: _) rfl ?_
   refine r_d rfl rfl rfl (s_move rfl rfl) ?_
   refine r_end ?_
   obtain ⟨kk0, hkk0, hr⟩ := exK (fun k => lf_snapshot_take_s2_L0 k (r_3.1 - 0 : Int).toNat [] r_3.2) hr
   refine g_int 10 rfl fun hla0 => ?_
   refine g_blockJ (fun env σ => ∃ (out_9 : (List S_api_Decl)) (r_10 : S_snapshot_reader) (u_8 : Value), env = [(7, .own u_8 (out_9.map enc_S_api_Decl))] ∧ σ = [.row u_8 out_9.length 29 2, .cell b_o0 (enc_S_snapshot_reader r_10)] ∧ kk0 out_9 r_10 = some res) ?_ (fun HK0 => ?_)
   ·
    rintro _ _ ⟨out_9, r_10, u_8, rfl, rfl, hr⟩
    rw [hkk0] at hr
    refine g_seq ?_
    refine g_run (by kernel_rfl) [(0, .d), (1, .d)] rfl ?_
    refine r_d rfl rfl rfl (s_move rfl rfl) ?_
    refine r_d rfl rfl rfl (s_assign rfl rfl) ?_
    refine r_end ?_
    refine g_perm [_] _ (pf1 _ _ _) ?_
    obtain rfl := Option.some.inj hr
    refine g_ret Tryz.func48 _ (.cons (resTmp rfl (Wk.own _ _)) .nil) ?_
    exact ⟨_, rfl, rfl, rfl⟩
   ·
    refine g_sub [(2, .clo (.func 49) [] [.ptr (.ref b_o0 0 [])]), (10, .int .i64 r_3.1), (7, .own u7_1 ([].map enc_S_api_Decl)), (11, .int .i64 0)] (Sub.cons' rfl (Sub.cons' rfl (Sub.cons' rfl (Sub.cons' rfl (Sub.nil _))))) ?_
    refine g_perm [_, _] _ ((pf1 _ _ _).trans (pf1 _ _ _)) ?_
    refine g_loop (fun n env σ => ∃ (out_5 : (List S_api_Decl)) (t11_6 : Int) (r_7 : S_snapshot_reader) (u_4 : Value) (m0 : Nat), (m0 = n) ∧ (env = [(2, .clo (.func 49) [] [.ptr (.ref b_o0 0 [])]), (10, .int .i64 r_3.1), (7, .own u_4 (out_5.map enc_S_api_Decl)), (11, .int .i64 t11_6)]) ∧ (σ = [.cell b_o0 (enc_S_snapshot_reader r_7), .row u_4 out_5.length 29 2]) ∧ (m0 = (r_3.1 - t11_6 : Int).toNat) ∧ (lf_snapshot_take_s2_L0 kk0 m0 out_5 r_7 = some res)) _ ⟨[], 0, r_3.2, u7_1, _, rfl, rfl, rfl, rfl, hr⟩ ?_
    rintro n _ _ ⟨out_5, t11_6, r_7, u_4, m0, rfl, rfl, rfl, hi0, hr⟩ IH0
    refine g_int 11 rfl fun hb0 => ?_
    rcases cntStep t11_6 r_3.1 m0 hi0 with ⟨hm0, ht0⟩ | ⟨m0', hm0, ht0, hi0', hlt0⟩
    ·
     rw [hm0, lf_snapshot_take_s2_L0] at hr
     refine g_seq ?_
     refine g_run (by kernel_rfl) [(0, .d)] rfl ?_
     refine r_d rfl rfl rfl (s_cmp rfl rfl rfl rfl) ?_
     refine r_end ?_
     refine g_seq ?_
     refine g_known 12 false rfl ht0 ?_
     refine g_condF rfl ?_
     refine g_exit rfl ?_
     refine g_sub [(7, .own u_4 (out_5.map enc_S_api_Decl))] (Sub.cons' rfl (Sub.nil _)) ?_
     refine g_perm [_, _] _ ((pf0 _).trans (pf1 _ _ _)) ?_
     exact HK0 _ _ ⟨out_5, r_7, u_4, rfl, rfl, hr⟩
    ·
     rw [hm0, lf_snapshot_take_s2_L0] at hr
     refine g_seq ?_
     refine g_run (by kernel_rfl) [(0, .d)] rfl ?_
     refine r_d rfl rfl rfl (s_cmp rfl rfl rfl rfl) ?_
     refine r_end ?_
     refine g_seq ?_
     refine g_int 10 rfl fun hbN10 => ?_
     refine g_known 12 true rfl ht0 ?_
     refine g_condT rfl ?_
     refine g_skip ?_
     refine g_seq ?_
     refine g_block ?_
     refine g_run (by kernel_rfl) [(0, .d), (1, .d), (2, .w), (3, .d), (4, .w), (5, .d)] rfl ?_
     refine r_d rfl rfl rfl (s_move rfl rfl) ?_
     refine r_d rfl rfl rfl (s_move rfl rfl) ?_
     rcases bindXS hr with ⟨c_r_11, hr_11, rfl⟩ | ⟨r_11, hr_11, hr⟩
     ·
      refine r_die rfl rfl (s_callVX _ rfl rfl cl_snapshot_TakeProgram_1_1 .nil rfl (by exact (pf0 _)) (specX_inl (lg_snapshot_TakeProgram_1_1_s1 _ _ _ hr_11))) (hX _ ⟨_, rfl, rfl⟩)
     ·
      refine r_w rfl rfl rfl (s_callV _ rfl rfl cl_snapshot_TakeProgram_1_1 .nil rfl (by exact (pf0 _)) (specX_inr (lg_snapshot_TakeProgram_1_1_s1 _ _ _ hr_11))) ?_
      rintro _ _ ⟨_, ⟨rfl, rfl⟩, rfl⟩
      refine r_st ((.cell b_o0 (enc_S_snapshot_reader r_11.2)) :: _) rfl ?_
      refine r_d rfl rfl rfl (m_lit (f := enc_S_api_Decl) [.tmp 15] [r_11.1] rfl el_L_api_Decl rfl rfl (by decide) (by decide) (.cons rfl (Wk.refl _) .nil) sz_S_api_Decl (fun _ => rfl)) ?_
      obtain ⟨l_12, hl_12, hr⟩ := bindS hr
      refine r_w rfl rfl rfl (m_appOwn (f := enc_S_api_Decl) out_5 [r_11.1] rfl el_L_api_Decl rfl rfl (asl rfl) (pf1 _ _ _) rfl sz_S_api_Decl hl_12) ?_
      rintro _ _ ⟨u17_12, rfl, rfl⟩
      refine r_d rfl rfl rfl (s_assign rfl rfl) ?_
      refine r_end ?_
      refine g_inBlock ?_
      refine g_run (by kernel_rfl) [(0, .d), (1, .d)] rfl ?_
      refine r_d rfl rfl rfl (s_ar (r := t11_6 + 1) rfl rfl rfl rfl (by omega)) ?_
      refine r_d rfl rfl rfl (s_move rfl rfl) ?_
      refine r_end ?_
      refine g_sub [(2, .clo (.func 49) [] [.ptr (.ref b_o0 0 [])]), (10, .int .i64 r_3.1), (7, .own u17_12 (l_12.map enc_S_api_Decl)), (11, .int .i64 (t11_6 + 1))] (Sub.cons' rfl (Sub.cons' rfl (Sub.cons' rfl (Sub.cons' rfl (Sub.nil _))))) ?_
      refine g_perm [_, _] _ ((pf0 _).trans (pf1 _ _ _)) ?_
      exact IH0 _ _ _ (by omega) ⟨l_12, (t11_6 + 1), r_11.2, u17_12, _, rfl, rfl, rfl, hi0', hr⟩

noncomputable def lfo_Psnapshot_reader_term_s1 (rec : Int → S_snapshot_reader → Option (Int ⊕ ((List T) × S_snapshot_reader))) (depth_a1 : Int) (c_0 : S_snapshot_reader) : Option (Int ⊕ (T × S_snapshot_reader)) :=
  (bif (decide (depth_a1 > (19 : Int))) then
  some (.inl 6)
  else
  (bindX (lf_Psnapshot_reader_number_s1 0 2 c_0) fun r_3 =>
  (bif (r_3.1 == (0 : Int)) then
  (bindX (lf_Psnapshot_reader_number_s1 (-2147483648) 2147483648 r_3.2) fun r_6 =>
  some (.inr ((T.mk r_3.1 r_6.1 ⟨#[]⟩ []), r_6.2)))
  else
  (bif (r_3.1 == (1 : Int)) then
  (bindX (lf_Psnapshot_reader_number_s1 0 1048576 r_3.2) fun r_8 =>
  some (.inr ((T.mk r_3.1 r_8.1 ⟨#[]⟩ []), r_8.2)))
  else
  (bindX (lf_Psnapshot_reader_text_s1 r_3.2) fun r_9 =>
  (bindX (rec (wr (depth_a1 + (1 : Int))) r_9.2) fun r_10 =>
  some (.inr ((T.mk r_3.1 0 r_9.1 r_10.1), r_10.2))))))))

set_option maxHeartbeats 1000000 in
theorem lgo_Psnapshot_reader_term_s1 (rec : Int → S_snapshot_reader → Option (Int ⊕ ((List T) × S_snapshot_reader))) (IHR : ∀ (depth_a1 : Int) (c_0 : S_snapshot_reader) (b_o0 : Nat) (res : Int ⊕ ((List T) × S_snapshot_reader)), rec depth_a1 c_0 = some res → SpecX Tryz.prog 161 [.ref b_o0 0 [], .int .i64 depth_a1] [.cell b_o0 (enc_S_snapshot_reader c_0)] (fun d σ => ∃ r : (List T) × S_snapshot_reader, res = .inr r ∧ d = .lst (r.1.map encT) ∧ σ = [.cell b_o0 (enc_S_snapshot_reader r.2)]) (fun d => ∃ c, res = .inl c ∧ d = .ifc 191 (.agg [.int .i64 c]))) (depth_a1 : Int) (c_0 : S_snapshot_reader) (b_o0 : Nat) (res : Int ⊕ (T × S_snapshot_reader)) (hr : lfo_Psnapshot_reader_term_s1 rec depth_a1 c_0 = some res) : SpecX Tryz.prog 84 [.ref b_o0 0 [], .int .i64 depth_a1] [.cell b_o0 (enc_S_snapshot_reader c_0)] (fun d σ => ∃ r : T × S_snapshot_reader, res = .inr r ∧ d = encT r.1 ∧ σ = [.cell b_o0 (enc_S_snapshot_reader r.2)]) (fun d => ∃ c, res = .inl c ∧ d = .ifc 191 (.agg [.int .i64 c])) := by
  unfold lfo_Psnapshot_reader_term_s1 at hr
  refine spec_envX [(0, .ref b_o0 0 []), (1, .int .i64 depth_a1)] Tryz.func84 rfl rfl fun K hK hX => ?_
  refine g_seq ?_
  refine g_run (by kernel_rfl) [(0, .w)] rfl ?_
  refine r_w rfl rfl rfl (s_alloc rfl zv_api_Term) ?_
  rintro _ _ ⟨b4_0, rfl, rfl⟩
  refine r_end ?_
  refine g_seq ?_
  refine g_seq ?_
  refine g_run (by kernel_rfl) [(0, .d), (1, .d)] rfl ?_
  refine r_d rfl rfl rfl (s_move rfl rfl) ?_
  refine r_d rfl rfl rfl (s_cmp rfl rfl rfl rfl) ?_
  refine r_end ?_
  refine g_sB 7 rfl hr (fun h7_1 hr => ?_) (fun h7_1 hr => ?_)
  ·
   refine g_condT rfl ?_
   refine g_run (by kernel_rfl) [(0, .d), (1, .d), (2, .w)] rfl ?_
   refine r_d rfl rfl rfl (s_build rfl bt_snapshot_failure (.cons rfl (Wk.refl _) .nil) (.cons rfl rfl rfl (.nil _))) ?_
   refine r_d rfl rfl rfl (s_makeIfc rfl Tryz.underlying191 rfl) ?_
   obtain rfl := Option.some.inj hr
   refine r_die rfl rfl (s_panic rfl rfl) (hX _ ⟨_, rfl, rfl⟩)
  ·
   refine g_condF rfl ?_
   refine g_skip ?_
   refine g_seq ?_
   refine g_run (by kernel_rfl) [(0, .d), (1, .w), (2, .d), (3, .w), (4, .w)] rfl ?_
   refine r_d rfl rfl rfl (s_move rfl rfl) ?_
   rcases bindXS hr with ⟨c_r_3, hr_3, rfl⟩ | ⟨r_3, hr_3, hr⟩
   ·
    refine r_die rfl rfl (s_callX _ rfl cl_Psnapshot_reader_number (.cons rfl (Wk.refl _) (.cons rfl (Wk.refl _) (.cons rfl (Wk.refl _) .nil))) (by exact (pf1 _ _ _)) (specX_inl (lg_Psnapshot_reader_number_s1 _ _ _ _ _ hr_3))) (hX _ ⟨_, rfl, rfl⟩)
   ·
    refine r_w rfl rfl rfl (s_call _ rfl cl_Psnapshot_reader_number (.cons rfl (Wk.refl _) (.cons rfl (Wk.refl _) (.cons rfl (Wk.refl _) .nil))) (by exact (pf1 _ _ _)) (specX_inr (lg_Psnapshot_reader_number_s1 _ _ _ _ _ hr_3))) ?_
    rintro _ _ ⟨_, ⟨rfl, rfl⟩, rfl⟩
    refine r_st ((.cell b_o0 (enc_S_snapshot_reader r_3.2)) :: _) rfl ?_
    refine r_d rfl rfl rfl (s_build rfl bt_api_Term (.cons rfl (Wk.refl _) .nil) (.cons rfl rfl rfl (.nil _))) ?_
    refine r_w rfl rfl rfl (s_alloc rfl zv_api_Term) ?_
    rintro _ _ ⟨b5_3, rfl, rfl⟩
    refine r_w01 rfl rfl rfl (t_store0 _ rfl rfl rfl (Wk.refl _) (pf0 _) (by exact ty_api_Term) rfl rfl rfl) ?_
    refine r_end ?_
    refine g_seq ?_
    refine g_seq ?_
    refine g_run (by kernel_rfl) [(0, .d), (1, .r)] rfl ?_
    refine r_d rfl rfl rfl (s_fieldRef rfl fl_api_Term_0 rfl) ?_
    refine r_r rfl rfl rfl (t_loadRef rfl rfl (.head _) rfl rfl (by exact ty_int) rfl) ?_
    refine r_end ?_
    refine g_block ?_
    refine g_seq ?_
    refine g_run (by kernel_rfl) [(0, .d), (1, .d)] rfl ?_
    refine r_d rfl rfl rfl (s_cmp rfl rfl rfl rfl) ?_
    refine r_d rfl rfl rfl (s_assign rfl rfl) ?_
    refine r_end ?_
    refine g_sB 23 rfl hr (fun h23_4 hr => ?_) (fun h23_4 hr => ?_)
    ·
     refine g_condT rfl ?_
     refine g_run (by kernel_rfl) [(0, .d), (1, .w), (2, .d), (3, .w)] rfl ?_
     refine r_d rfl rfl rfl (s_move rfl rfl) ?_
     rcases bindXS hr with ⟨c_r_6, hr_6, rfl⟩ | ⟨r_6, hr_6, hr⟩
     ·
      refine r_die rfl rfl (s_callX _ rfl cl_Psnapshot_reader_number (.cons rfl (Wk.refl _) (.cons rfl (Wk.refl _) (.cons rfl (Wk.refl _) .nil))) (by exact (pf1 _ _ _)) (specX_inl (lg_Psnapshot_reader_number_s1 _ _ _ _ _ hr_6))) (hX _ ⟨_, rfl, rfl⟩)
     ·
      refine r_w rfl rfl rfl (s_call _ rfl cl_Psnapshot_reader_number (.cons rfl (Wk.refl _) (.cons rfl (Wk.refl _) (.cons rfl (Wk.refl _) .nil))) (by exact (pf1 _ _ _)) (specX_inr (lg_Psnapshot_reader_number_s1 _ _ _ _ _ hr_6))) ?_
      rintro _ _ ⟨_, ⟨rfl, rfl⟩, rfl⟩
      refine r_st ((.cell b_o0 (enc_S_snapshot_reader r_6.2)) :: _) rfl ?_
      refine r_d rfl rfl rfl (s_fieldRef rfl fl_api_Term_1 rfl) ?_
      refine r_w01 rfl rfl rfl (t_store _ rfl rfl rfl (Wk.refl _) (pf1 _ _ _) rfl rfl (by exact ty_int) rfl rfl rfl) ?_
      refine r_end ?_
      refine g_inBlock ?_
      refine g_seq ?_
      refine g_run (by kernel_rfl) [(0, .r), (1, .w)] rfl ?_
      refine r_r rfl rfl rfl (t_loadRef rfl rfl (.head _) rfl rfl (by exact ty_api_Term) rfl) ?_
      refine r_w01 rfl rfl rfl (t_store0 _ rfl rfl rfl (Wk.refl _) (pf2 _ _ _ _) (by exact ty_api_Term) rfl rfl rfl) ?_
      refine r_end ?_
      refine g_freeze 4 b4_0 rfl (pf0 _) ?_
      refine g_perm [_] _ (pf1 _ _ _) ?_
      obtain rfl := Option.some.inj hr
      refine g_ret Tryz.func84 _ (.cons (resPtr rfl (by exact ty_api_Term) rfl (Wk.refl _)) .nil) ?_
      exact ⟨_, rfl, by first | rfl | exact (congrArg D.agg (fsT_eq (T.mk _ _ _ _))).symm, rfl⟩
    ·
     refine g_condF rfl ?_
     refine g_seq ?_
     refine g_run (by kernel_rfl) [(0, .d), (1, .d)] rfl ?_
     refine r_d rfl rfl rfl (s_cmp rfl rfl rfl rfl) ?_
     refine r_d rfl rfl rfl (s_assign rfl rfl) ?_
     refine r_end ?_
     refine g_sB 28 rfl hr (fun h28_6 hr => ?_) (fun h28_6 hr => ?_)
     ·
      refine g_condT rfl ?_
      refine g_run (by kernel_rfl) [(0, .d), (1, .w), (2, .d), (3, .w)] rfl ?_
      refine r_d rfl rfl rfl (s_move rfl rfl) ?_
      rcases bindXS hr with ⟨c_r_8, hr_8, rfl⟩ | ⟨r_8, hr_8, hr⟩
      ·
       refine r_die rfl rfl (s_callX _ rfl cl_Psnapshot_reader_number (.cons rfl (Wk.refl _) (.cons rfl (Wk.refl _) (.cons rfl (Wk.refl _) .nil))) (by exact (pf1 _ _ _)) (specX_inl (lg_Psnapshot_reader_number_s1 _ _ _ _ _ hr_8))) (hX _ ⟨_, rfl, rfl⟩)
      ·
       refine r_w rfl rfl rfl (s_call _ rfl cl_Psnapshot_reader_number (.cons rfl (Wk.refl _) (.cons rfl (Wk.refl _) (.cons rfl (Wk.refl _) .nil))) (by exact (pf1 _ _ _)) (specX_inr (lg_Psnapshot_reader_number_s1 _ _ _ _ _ hr_8))) ?_
       rintro _ _ ⟨_, ⟨rfl, rfl⟩, rfl⟩
       refine r_st ((.cell b_o0 (enc_S_snapshot_reader r_8.2)) :: _) rfl ?_
       refine r_d rfl rfl rfl (s_fieldRef rfl fl_api_Term_1 rfl) ?_
       refine r_w01 rfl rfl rfl (t_store _ rfl rfl rfl (Wk.refl _) (pf1 _ _ _) rfl rfl (by exact ty_int) rfl rfl rfl) ?_
       refine r_end ?_
       refine g_inBlock ?_
       refine g_seq ?_
       refine g_run (by kernel_rfl) [(0, .r), (1, .w)] rfl ?_
       refine r_r rfl rfl rfl (t_loadRef rfl rfl (.head _) rfl rfl (by exact ty_api_Term) rfl) ?_
       refine r_w01 rfl rfl rfl (t_store0 _ rfl rfl rfl (Wk.refl _) (pf2 _ _ _ _) (by exact ty_api_Term) rfl rfl rfl) ?_
       refine r_end ?_
       refine g_freeze 4 b4_0 rfl (pf0 _) ?_
       refine g_perm [_] _ (pf1 _ _ _) ?_
       obtain rfl := Option.some.inj hr
       refine g_ret Tryz.func84 _ (.cons (resPtr rfl (by exact ty_api_Term) rfl (Wk.refl _)) .nil) ?_
       exact ⟨_, rfl, by first | rfl | exact (congrArg D.agg (fsT_eq (T.mk _ _ _ _))).symm, rfl⟩
     ·
      refine g_condF rfl ?_
      refine g_seq ?_
      refine g_run (by kernel_rfl) [(0, .d), (1, .w), (2, .d), (3, .w)] rfl ?_
      refine r_d rfl rfl rfl (s_move rfl rfl) ?_
      rcases bindXS hr with ⟨c_r_9, hr_9, rfl⟩ | ⟨r_9, hr_9, hr⟩
      ·
       refine r_die rfl rfl (s_callX _ rfl cl_Psnapshot_reader_text (.cons rfl (Wk.refl _) .nil) (by exact (pf1 _ _ _)) (specX_inl (lg_Psnapshot_reader_text_s1 _ _ _ hr_9))) (hX _ ⟨_, rfl, rfl⟩)
      ·
       refine r_w rfl rfl rfl (s_call _ rfl cl_Psnapshot_reader_text (.cons rfl (Wk.refl _) .nil) (by exact (pf1 _ _ _)) (specX_inr (lg_Psnapshot_reader_text_s1 _ _ _ hr_9))) ?_
       rintro _ _ ⟨_, ⟨rfl, rfl⟩, rfl⟩
       refine r_st ((.cell b_o0 (enc_S_snapshot_reader r_9.2)) :: _) rfl ?_
       refine r_d rfl rfl rfl (s_fieldRef rfl fl_api_Term_2 rfl) ?_
       refine r_w01 rfl rfl rfl (t_store _ rfl rfl rfl (Wk.refl _) (pf1 _ _ _) rfl rfl (by exact ty_string) rfl rfl rfl) ?_
       refine r_end ?_
       refine g_run (by kernel_rfl) [(0, .d), (1, .d), (2, .d), (3, .w), (4, .d), (5, .w)] rfl ?_
       refine r_d rfl rfl rfl (s_move rfl rfl) ?_
       refine r_d rfl rfl rfl (s_move rfl rfl) ?_
       refine r_d rfl rfl rfl (s_arW rfl rfl rfl rfl) ?_
       rcases bindXS hr with ⟨c_r_10, hr_10, rfl⟩ | ⟨r_10, hr_10, hr⟩
       ·
        refine r_die rfl rfl (s_callX _ rfl cl_Psnapshot_reader_args (.cons rfl (Wk.refl _) (.cons rfl (Wk.refl _) .nil)) (by exact (pf1 _ _ _)) (specX_inl (IHR _ _ _ _ hr_10))) (hX _ ⟨_, rfl, rfl⟩)
       ·
        refine r_w rfl rfl rfl (s_call _ rfl cl_Psnapshot_reader_args (.cons rfl (Wk.refl _) (.cons rfl (Wk.refl _) .nil)) (by exact (pf1 _ _ _)) (specX_inr (IHR _ _ _ _ hr_10))) ?_
        rintro _ _ ⟨_, ⟨rfl, rfl⟩, rfl⟩
        refine r_st ((.cell b_o0 (enc_S_snapshot_reader r_10.2)) :: _) rfl ?_
        refine r_d rfl rfl rfl (s_fieldRef rfl fl_api_Term_3 rfl) ?_
        refine r_w01 rfl rfl rfl (t_store _ rfl rfl rfl (Wk.refl _) (pf1 _ _ _) rfl rfl (by exact ty_L_api_Term) rfl rfl rfl) ?_
        refine r_end ?_
        refine g_inBlock ?_
        refine g_seq ?_
        refine g_run (by kernel_rfl) [(0, .r), (1, .w)] rfl ?_
        refine r_r rfl rfl rfl (t_loadRef rfl rfl (.head _) rfl rfl (by exact ty_api_Term) rfl) ?_
        refine r_w01 rfl rfl rfl (t_store0 _ rfl rfl rfl (Wk.refl _) (pf2 _ _ _ _) (by exact ty_api_Term) rfl rfl rfl) ?_
        refine r_end ?_
        refine g_freeze 4 b4_0 rfl (pf0 _) ?_
        refine g_perm [_] _ (pf1 _ _ _) ?_
        obtain rfl := Option.some.inj hr
        refine g_ret Tryz.func84 _ (.cons (resPtr rfl (by exact ty_api_Term) rfl (Wk.refl _)) .nil) ?_
        exact ⟨_, rfl, by first | rfl | exact (congrArg D.agg (fsT_eq (T.mk _ _ _ _))).symm, rfl⟩

noncomputable def lfo_Psnapshot_reader_args_1_s1 (rec : Int → S_snapshot_reader → Option (Int ⊕ ((List T) × S_snapshot_reader))) (t1_a1 : Int) (c_0 : S_snapshot_reader) : Option (Int ⊕ (T × S_snapshot_reader)) :=
  (bindX (lfo_Psnapshot_reader_term_s1 rec t1_a1 c_0) fun r_2 =>
  some (.inr (r_2.1, r_2.2)))

set_option maxHeartbeats 1000000 in
theorem lgo_Psnapshot_reader_args_1_s1 (rec : Int → S_snapshot_reader → Option (Int ⊕ ((List T) × S_snapshot_reader))) (IHR : ∀ (depth_a1 : Int) (c_0 : S_snapshot_reader) (b_o0 : Nat) (res : Int ⊕ ((List T) × S_snapshot_reader)), rec depth_a1 c_0 = some res → SpecX Tryz.prog 161 [.ref b_o0 0 [], .int .i64 depth_a1] [.cell b_o0 (enc_S_snapshot_reader c_0)] (fun d σ => ∃ r : (List T) × S_snapshot_reader, res = .inr r ∧ d = .lst (r.1.map encT) ∧ σ = [.cell b_o0 (enc_S_snapshot_reader r.2)]) (fun d => ∃ c, res = .inl c ∧ d = .ifc 191 (.agg [.int .i64 c]))) (t1_a1 : Int) (c_0 : S_snapshot_reader) (b_o0 : Nat) (res : Int ⊕ (T × S_snapshot_reader)) (hr : lfo_Psnapshot_reader_args_1_s1 rec t1_a1 c_0 = some res) : SpecX Tryz.prog 206 [.ptr (.ref b_o0 0 []), .ptr (.int .i64 t1_a1)] [.cell b_o0 (enc_S_snapshot_reader c_0)] (fun d σ => ∃ r : T × S_snapshot_reader, res = .inr r ∧ d = encT r.1 ∧ σ = [.cell b_o0 (enc_S_snapshot_reader r.2)]) (fun d => ∃ c, res = .inl c ∧ d = .ifc 191 (.agg [.int .i64 c])) := by
  unfold lfo_Psnapshot_reader_args_1_s1 at hr
  refine spec_envX [(0, .ptr (.ref b_o0 0 [])), (1, .ptr (.int .i64 t1_a1))] Tryz.func206 rfl rfl fun K hK hX => ?_
  refine g_seq ?_
  refine g_run (by kernel_rfl) [(0, .w)] rfl ?_
  refine r_w rfl rfl rfl (s_alloc rfl zv_api_Term) ?_
  rintro _ _ ⟨b2_0, rfl, rfl⟩
  refine r_end ?_
  refine g_seq ?_
  refine g_run (by kernel_rfl) [(0, .d), (1, .d), (2, .w), (3, .w)] rfl ?_
  refine r_d rfl rfl rfl (s_load rfl rfl (by exact ty_P_snapshot_reader) rfl) ?_
  refine r_d rfl rfl rfl (s_load rfl rfl (by exact ty_int) rfl) ?_
  rcases bindXS hr with ⟨c_r_2, hr_2, rfl⟩ | ⟨r_2, hr_2, hr⟩
  ·
   refine r_die rfl rfl (s_callX _ rfl cl_Psnapshot_reader_term (.cons rfl (Wk.refl _) (.cons rfl (Wk.refl _) .nil)) (by exact (pf1 _ _ _)) (specX_inl (lgo_Psnapshot_reader_term_s1 rec IHR _ _ _ _ hr_2))) (hX _ ⟨_, rfl, rfl⟩)
  ·
   refine r_w rfl rfl rfl (s_call _ rfl cl_Psnapshot_reader_term (.cons rfl (Wk.refl _) (.cons rfl (Wk.refl _) .nil)) (by exact (pf1 _ _ _)) (specX_inr (lgo_Psnapshot_reader_term_s1 rec IHR _ _ _ _ hr_2))) ?_
   rintro _ _ ⟨_, ⟨rfl, rfl⟩, rfl⟩
   refine r_st ((.cell b_o0 (enc_S_snapshot_reader r_2.2)) :: _) rfl ?_
   refine r_w01 rfl rfl rfl (t_store0 _ rfl rfl rfl (Wk.refl _) (pf1 _ _ _) (by exact ty_api_Term) (sz_encT _) rfl rfl) ?_
   refine r_end ?_
   refine g_freeze 2 b2_0 rfl (pf0 _) ?_
   obtain rfl := Option.some.inj hr
   refine g_ret Tryz.func206 _ (.cons (resPtr rfl (by exact ty_api_Term) (sz_encT _) (Wk.refl _)) .nil) ?_
   exact ⟨_, rfl, rfl, rfl⟩

noncomputable def lf_snapshot_take_s1_L0 (k : ((List T)) → (S_snapshot_reader) → Option (Int ⊕ ((List T) × S_snapshot_reader))) (rec : Int → S_snapshot_reader → Option (Int ⊕ ((List T) × S_snapshot_reader))) (one_a2_c1 : Int) : Nat → (List T) → S_snapshot_reader → Option (Int ⊕ ((List T) × S_snapshot_reader))
  | 0, out_5, r_7 =>
  (k out_5 r_7)
  | rest + 1, out_5, r_7 =>
  (bindX (lfo_Psnapshot_reader_args_1_s1 rec one_a2_c1 r_7) fun r_11 =>
  ((appO 56 out_5 [r_11.1]).bind fun l_12 =>
  (lf_snapshot_take_s1_L0 k rec one_a2_c1 rest l_12 r_11.2)))
noncomputable def lfo_snapshot_take_s1 (rec : Int → S_snapshot_reader → Option (Int ⊕ ((List T) × S_snapshot_reader))) (most_a1 : Int) (one_a2_c1 : Int) (c_0 : S_snapshot_reader) : Option (Int ⊕ ((List T) × S_snapshot_reader)) :=
  (bindX (lf_Psnapshot_reader_number_s1 0 most_a1 c_0) fun r_3 =>
  (lf_snapshot_take_s1_L0 (fun out_9 r_10 =>
  some (.inr (out_9, r_10))) rec one_a2_c1 (r_3.1 - 0 : Int).toNat [] r_3.2))

set_option maxHeartbeats 1000000 in
theorem lgo_snapshot_take_s1 (rec : Int → S_snapshot_reader → Option (Int ⊕ ((List T) × S_snapshot_reader))) (IHR : ∀ (depth_a1 : Int) (c_0 : S_snapshot_reader) (b_o0 : Nat) (res : Int ⊕ ((List T) × S_snapshot_reader)), rec depth_a1 c_0 = some res → SpecX Tryz.prog 161 [.ref b_o0 0 [], .int .i64 depth_a1] [.cell b_o0 (enc_S_snapshot_reader c_0)] (fun d σ => ∃ r : (List T) × S_snapshot_reader, res = .inr r ∧ d = .lst (r.1.map encT) ∧ σ = [.cell b_o0 (enc_S_snapshot_reader r.2)]) (fun d => ∃ c, res = .inl c ∧ d = .ifc 191 (.agg [.int .i64 c]))) (most_a1 : Int) (one_a2_c1 : Int) (c_0 : S_snapshot_reader) (b_o0 : Nat) (res : Int ⊕ ((List T) × S_snapshot_reader)) (hr : lfo_snapshot_take_s1 rec most_a1 one_a2_c1 c_0 = some res) : SpecX Tryz.prog 205 [.ref b_o0 0 [], .int .i64 most_a1, .clo (.func 206) [] [.ptr (.ref b_o0 0 []), .ptr (.int .i64 one_a2_c1)]] [.cell b_o0 (enc_S_snapshot_reader c_0)] (fun d σ => ∃ r : (List T) × S_snapshot_reader, res = .inr r ∧ d = .lst (r.1.map encT) ∧ σ = [.cell b_o0 (enc_S_snapshot_reader r.2)]) (fun d => ∃ c, res = .inl c ∧ d = .ifc 191 (.agg [.int .i64 c])) := by
  unfold lfo_snapshot_take_s1 at hr
  refine spec_envX [(0, .ref b_o0 0 []), (1, .int .i64 most_a1), (2, .clo (.func 206) [] [.ptr (.ref b_o0 0 []), .ptr (.int .i64 one_a2_c1)])] Tryz.func205 rfl rfl fun K hK hX => ?_
  refine g_seq ?_
  refine g_run (by kernel_rfl) [(0, .w)] rfl ?_
  refine r_w rfl rfl rfl (s_nilOwn 114 4 (.inl rfl)) ?_
  rintro _ _ ⟨u6_0, rfl, rfl⟩
  refine r_end ?_
  refine g_seq ?_
  refine g_run (by kernel_rfl) [(0, .w)] rfl ?_
  refine r_w rfl rfl rfl (s_nilOwn 114 4 (.inl rfl)) ?_
  rintro _ _ ⟨u7_1, rfl, rfl⟩
  refine r_end ?_
  refine g_seq ?_
  refine g_seq ?_
  refine g_run (by kernel_rfl) [(0, .d), (1, .d), (2, .w), (3, .d)] rfl ?_
  refine r_d rfl rfl rfl (s_move rfl rfl) ?_
  refine r_d rfl rfl rfl (s_move rfl rfl) ?_
  rcases bindXS hr with ⟨c_r_3, hr_3, rfl⟩ | ⟨r_3, hr_3, hr⟩
  ·
   refine r_die rfl rfl (s_callX _ rfl cl_Psnapshot_reader_number (.cons rfl (Wk.refl _) (.cons rfl (Wk.refl _) (.cons rfl (Wk.refl _) .nil))) (by exact (pf2 _ _ _ _)) (specX_inl (lg_Psnapshot_reader_number_s1 _ _ _ _ _ hr_3))) (hX _ ⟨_, rfl, rfl⟩)
  ·
   refine r_w rfl rfl rfl (s_call _ rfl cl_Psnapshot_reader_number (.cons rfl (Wk.refl _) (.cons rfl (Wk.refl _) (.cons rfl (Wk.refl _) .nil))) (by exact (pf2 _ _ _ _)) (specX_inr (lg_Psnapshot_reader_number_s1 _ _ _ _ _ hr_3))) ?_
   rintro _ _ ⟨_, ⟨rfl, rfl⟩, rfl⟩
   refine r_st ((.cell b_o0 (enc_S_snapshot_reader r_3.2)) :: _) rfl ?_
   refine r_d rfl rfl rfl (s_move rfl rfl) ?_
   refine r_end ?_
   obtain ⟨kk0, hkk0, hr⟩ := exK (fun k => lf_snapshot_take_s1_L0 k rec one_a2_c1 (r_3.1 - 0 : Int).toNat [] r_3.2) hr
   refine g_int 10 rfl fun hla0 => ?_
   refine g_blockJ (fun env σ => ∃ (out_9 : (List T)) (r_10 : S_snapshot_reader) (u_8 : Value), env = [(7, .own u_8 (out_9.map encT))] ∧ σ = [.row u_8 out_9.length 114 4, .cell b_o0 (enc_S_snapshot_reader r_10)] ∧ kk0 out_9 r_10 = some res) ?_ (fun HK0 => ?_)
   ·
    rintro _ _ ⟨out_9, r_10, u_8, rfl, rfl, hr⟩
    rw [hkk0] at hr
    refine g_seq ?_
    refine g_run (by kernel_rfl) [(0, .d), (1, .d)] rfl ?_
    refine r_d rfl rfl rfl (s_move rfl rfl) ?_
    refine r_d rfl rfl rfl (s_assign rfl rfl) ?_
    refine r_end ?_
    refine g_perm [_] _ (pf1 _ _ _) ?_
    obtain rfl := Option.some.inj hr
    refine g_ret Tryz.func205 _ (.cons (resTmp rfl (Wk.own _ _)) .nil) ?_
    exact ⟨_, rfl, rfl, rfl⟩
   ·
    refine g_sub [(2, .clo (.func 206) [] [.ptr (.ref b_o0 0 []), .ptr (.int .i64 one_a2_c1)]), (10, .int .i64 r_3.1), (7, .own u7_1 ([].map encT)), (11, .int .i64 0)] (Sub.cons' rfl (Sub.cons' rfl (Sub.cons' rfl (Sub.cons' rfl (Sub.nil _))))) ?_
    refine g_perm [_, _] _ ((pf1 _ _ _).trans (pf1 _ _ _)) ?_
    refine g_loop (fun n env σ => ∃ (out_5 : (List T)) (t11_6 : Int) (r_7 : S_snapshot_reader) (u_4 : Value) (m0 : Nat), (m0 = n) ∧ (env = [(2, .clo (.func 206) [] [.ptr (.ref b_o0 0 []), .ptr (.int .i64 one_a2_c1)]), (10, .int .i64 r_3.1), (7, .own u_4 (out_5.map encT)), (11, .int .i64 t11_6)]) ∧ (σ = [.cell b_o0 (enc_S_snapshot_reader r_7), .row u_4 out_5.length 114 4]) ∧ (m0 = (r_3.1 - t11_6 : Int).toNat) ∧ (lf_snapshot_take_s1_L0 kk0 rec one_a2_c1 m0 out_5 r_7 = some res)) _ ⟨[], 0, r_3.2, u7_1, _, rfl, rfl, rfl, rfl, hr⟩ ?_
    rintro n _ _ ⟨out_5, t11_6, r_7, u_4, m0, rfl, rfl, rfl, hi0, hr⟩ IH0
    refine g_int 11 rfl fun hb0 => ?_
    rcases cntStep t11_6 r_3.1 m0 hi0 with ⟨hm0, ht0⟩ | ⟨m0', hm0, ht0, hi0', hlt0⟩
    ·
     rw [hm0, lf_snapshot_take_s1_L0] at hr
     refine g_seq ?_
     refine g_run (by kernel_rfl) [(0, .d)] rfl ?_
     refine r_d rfl rfl rfl (s_cmp rfl rfl rfl rfl) ?_
     refine r_end ?_
     refine g_seq ?_
     refine g_known 12 false rfl ht0 ?_
     refine g_condF rfl ?_
     refine g_exit rfl ?_
     refine g_sub [(7, .own u_4 (out_5.map encT))] (Sub.cons' rfl (Sub.nil _)) ?_
     refine g_perm [_, _] _ ((pf0 _).trans (pf1 _ _ _)) ?_
     exact HK0 _ _ ⟨out_5, r_7, u_4, rfl, rfl, hr⟩
    ·
     rw [hm0, lf_snapshot_take_s1_L0] at hr
     refine g_seq ?_
     refine g_run (by kernel_rfl) [(0, .d)] rfl ?_
     refine r_d rfl rfl rfl (s_cmp rfl rfl rfl rfl) ?_
     refine r_end ?_
     refine g_seq ?_
     refine g_int 10 rfl fun hbN10 => ?_
     refine g_known 12 true rfl ht0 ?_
     refine g_condT rfl ?_
     refine g_skip ?_
     refine g_seq ?_
     refine g_block ?_
     refine g_run (by kernel_rfl) [(0, .d), (1, .d), (2, .w), (3, .d), (4, .w), (5, .d)] rfl ?_
     refine r_d rfl rfl rfl (s_move rfl rfl) ?_
     refine r_d rfl rfl rfl (s_move rfl rfl) ?_
     rcases bindXS hr with ⟨c_r_11, hr_11, rfl⟩ | ⟨r_11, hr_11, hr⟩
     ·
      refine r_die rfl rfl (s_callVX _ rfl rfl cl_Psnapshot_reader_args_1 .nil rfl (by exact (pf0 _)) (specX_inl (lgo_Psnapshot_reader_args_1_s1 rec IHR _ _ _ _ hr_11))) (hX _ ⟨_, rfl, rfl⟩)
     ·
      refine r_w rfl rfl rfl (s_callV _ rfl rfl cl_Psnapshot_reader_args_1 .nil rfl (by exact (pf0 _)) (specX_inr (lgo_Psnapshot_reader_args_1_s1 rec IHR _ _ _ _ hr_11))) ?_
      rintro _ _ ⟨_, ⟨rfl, rfl⟩, rfl⟩
      refine r_st ((.cell b_o0 (enc_S_snapshot_reader r_11.2)) :: _) rfl ?_
      refine r_d rfl rfl rfl (m_lit (f := encT) [.tmp 15] [r_11.1] rfl el_L_api_Term rfl rfl (by decide) (by decide) (.cons rfl (Wk.refl _) .nil) sz_encT (fun _ => rfl)) ?_
      obtain ⟨l_12, hl_12, hr⟩ := bindS hr
      refine r_w rfl rfl rfl (m_appOwn (f := encT) out_5 [r_11.1] rfl el_L_api_Term rfl rfl (asl rfl) (pf1 _ _ _) rfl sz_encT hl_12) ?_
      rintro _ _ ⟨u17_12, rfl, rfl⟩
      refine r_d rfl rfl rfl (s_assign rfl rfl) ?_
      refine r_end ?_
      refine g_inBlock ?_
      refine g_run (by kernel_rfl) [(0, .d), (1, .d)] rfl ?_
      refine r_d rfl rfl rfl (s_ar (r := t11_6 + 1) rfl rfl rfl rfl (by omega)) ?_
      refine r_d rfl rfl rfl (s_move rfl rfl) ?_
      refine r_end ?_
      refine g_sub [(2, .clo (.func 206) [] [.ptr (.ref b_o0 0 []), .ptr (.int .i64 one_a2_c1)]), (10, .int .i64 r_3.1), (7, .own u17_12 (l_12.map encT)), (11, .int .i64 (t11_6 + 1))] (Sub.cons' rfl (Sub.cons' rfl (Sub.cons' rfl (Sub.cons' rfl (Sub.nil _))))) ?_
      refine g_perm [_, _] _ ((pf0 _).trans (pf1 _ _ _)) ?_
      exact IH0 _ _ _ (by omega) ⟨l_12, (t11_6 + 1), r_11.2, u17_12, _, rfl, rfl, rfl, hi0', hr⟩

noncomputable def lf_Psnapshot_reader_args_s1 : Nat → Int → S_snapshot_reader → Option (Int ⊕ ((List T) × S_snapshot_reader))
  | 0, _, _ => none
  | fuel + 1, depth_a1, c_0 =>
    (fun (rec : Int → S_snapshot_reader → Option (Int ⊕ ((List T) × S_snapshot_reader))) =>
      (bindX (lfo_snapshot_take_s1 rec 6 depth_a1 c_0) fun r_1 =>
      some (.inr (r_1.1, r_1.2)))) (lf_Psnapshot_reader_args_s1 fuel)

set_option maxHeartbeats 1000000 in
theorem lgs_Psnapshot_reader_args_s1 (fuel : Nat) (rec : Int → S_snapshot_reader → Option (Int ⊕ ((List T) × S_snapshot_reader))) (IHR : ∀ (depth_a1 : Int) (c_0 : S_snapshot_reader) (b_o0 : Nat) (res : Int ⊕ ((List T) × S_snapshot_reader)), rec depth_a1 c_0 = some res → SpecX Tryz.prog 161 [.ref b_o0 0 [], .int .i64 depth_a1] [.cell b_o0 (enc_S_snapshot_reader c_0)] (fun d σ => ∃ r : (List T) × S_snapshot_reader, res = .inr r ∧ d = .lst (r.1.map encT) ∧ σ = [.cell b_o0 (enc_S_snapshot_reader r.2)]) (fun d => ∃ c, res = .inl c ∧ d = .ifc 191 (.agg [.int .i64 c]))) (depth_a1 : Int) (c_0 : S_snapshot_reader) (b_o0 : Nat) (res : Int ⊕ ((List T) × S_snapshot_reader))
    (hr : (bindX (lfo_snapshot_take_s1 rec 6 depth_a1 c_0) fun r_1 =>
some (.inr (r_1.1, r_1.2))) = some res) : SpecX Tryz.prog 161 [.ref b_o0 0 [], .int .i64 depth_a1] [.cell b_o0 (enc_S_snapshot_reader c_0)] (fun d σ => ∃ r : (List T) × S_snapshot_reader, res = .inr r ∧ d = .lst (r.1.map encT) ∧ σ = [.cell b_o0 (enc_S_snapshot_reader r.2)]) (fun d => ∃ c, res = .inl c ∧ d = .ifc 191 (.agg [.int .i64 c])) := by
  refine spec_envX [(0, .ref b_o0 0 []), (1, .int .i64 depth_a1)] Tryz.func161 rfl rfl fun K hK hX => ?_
  refine g_seq ?_
  refine g_run (by kernel_rfl) [(0, .d), (1, .d), (2, .d)] rfl ?_
  refine r_d rfl rfl rfl (s_box rfl rfl rfl) ?_
  refine r_d rfl rfl rfl (s_box rfl rfl rfl) ?_
  refine r_d rfl rfl rfl (s_assign rfl rfl) ?_
  refine r_end ?_
  refine g_seq ?_
  refine g_run (by kernel_rfl) [(0, .d), (1, .d), (2, .w), (3, .d)] rfl ?_
  refine r_d rfl rfl rfl (s_load rfl rfl (by exact ty_P_snapshot_reader) rfl) ?_
  refine r_d rfl rfl rfl (s_makeFunc rfl rfl rfl) ?_
  rcases bindXS hr with ⟨c_r_1, hr_1, rfl⟩ | ⟨r_1, hr_1, hr⟩
  ·
   refine r_die rfl rfl (s_callX _ rfl cl_snapshot_take_api_Term (.cons rfl (Wk.refl _) (.cons rfl (Wk.refl _) (.cons rfl (Wk.refl _) .nil))) (by exact (pf0 _)) (specX_inl (lgo_snapshot_take_s1 rec IHR _ _ _ _ _ hr_1))) (hX _ ⟨_, rfl, rfl⟩)
  ·
   refine r_w rfl rfl rfl (s_call _ rfl cl_snapshot_take_api_Term (.cons rfl (Wk.refl _) (.cons rfl (Wk.refl _) (.cons rfl (Wk.refl _) .nil))) (by exact (pf0 _)) (specX_inr (lgo_snapshot_take_s1 rec IHR _ _ _ _ _ hr_1))) ?_
   rintro _ _ ⟨_, ⟨rfl, rfl⟩, rfl⟩
   refine r_st ((.cell b_o0 (enc_S_snapshot_reader r_1.2)) :: _) rfl ?_
   refine r_d rfl rfl rfl (s_assign rfl rfl) ?_
   refine r_end ?_
   obtain rfl := Option.some.inj hr
   refine g_ret Tryz.func161 _ (.cons (resTmp rfl (Wk.refl _)) .nil) ?_
   exact ⟨_, rfl, rfl, rfl⟩
theorem lg_Psnapshot_reader_args_s1 : ∀ (fuel : Nat) (depth_a1 : Int) (c_0 : S_snapshot_reader) (b_o0 : Nat) (res : Int ⊕ ((List T) × S_snapshot_reader)), lf_Psnapshot_reader_args_s1 fuel depth_a1 c_0 = some res → SpecX Tryz.prog 161 [.ref b_o0 0 [], .int .i64 depth_a1] [.cell b_o0 (enc_S_snapshot_reader c_0)] (fun d σ => ∃ r : (List T) × S_snapshot_reader, res = .inr r ∧ d = .lst (r.1.map encT) ∧ σ = [.cell b_o0 (enc_S_snapshot_reader r.2)]) (fun d => ∃ c, res = .inl c ∧ d = .ifc 191 (.agg [.int .i64 c]))
  | 0, _, _, _, _, h => by cases h
  | fuel + 1, depth_a1, c_0, b_o0, res, h => lgs_Psnapshot_reader_args_s1 fuel (lf_Psnapshot_reader_args_s1 fuel) (lg_Psnapshot_reader_args_s1 fuel) depth_a1 c_0 b_o0 res h

noncomputable def lf_Psnapshot_reader_term_s1 (fuel : Nat) (depth_a1 : Int) (c_0 : S_snapshot_reader) : Option (Int ⊕ (T × S_snapshot_reader)) := lfo_Psnapshot_reader_term_s1 (lf_Psnapshot_reader_args_s1 fuel) depth_a1 c_0
theorem lg_Psnapshot_reader_term_s1 (fuel : Nat) (depth_a1 : Int) (c_0 : S_snapshot_reader) (b_o0 : Nat) (res : Int ⊕ (T × S_snapshot_reader)) (hr : lf_Psnapshot_reader_term_s1 fuel depth_a1 c_0 = some res) : SpecX Tryz.prog 84 [.ref b_o0 0 [], .int .i64 depth_a1] [.cell b_o0 (enc_S_snapshot_reader c_0)] (fun d σ => ∃ r : T × S_snapshot_reader, res = .inr r ∧ d = encT r.1 ∧ σ = [.cell b_o0 (enc_S_snapshot_reader r.2)]) (fun d => ∃ c, res = .inl c ∧ d = .ifc 191 (.agg [.int .i64 c])) := lgo_Psnapshot_reader_term_s1 (lf_Psnapshot_reader_args_s1 fuel) (lg_Psnapshot_reader_args_s1 fuel) depth_a1 c_0 b_o0 res hr

noncomputable def lf_Psnapshot_reader_atom_s1 (fuel : Nat) (c_0 : S_snapshot_reader) : Option (Int ⊕ (At × S_snapshot_reader)) :=
  (bindX (lf_Psnapshot_reader_text_s1 c_0) fun r_2 =>
  (bindX (lf_Psnapshot_reader_args_s1 fuel 0 r_2.2) fun r_3 =>
  some (.inr ((⟨r_2.1, r_3.1⟩ : At), r_3.2))))

set_option maxHeartbeats 1000000 in
theorem lg_Psnapshot_reader_atom_s1 (fuel : Nat) (c_0 : S_snapshot_reader) (b_o0 : Nat) (res : Int ⊕ (At × S_snapshot_reader)) (hr : lf_Psnapshot_reader_atom_s1 fuel c_0 = some res) : SpecX Tryz.prog 144 [.ref b_o0 0 []] [.cell b_o0 (enc_S_snapshot_reader c_0)] (fun d σ => ∃ r : At × S_snapshot_reader, res = .inr r ∧ d = encA r.1 ∧ σ = [.cell b_o0 (enc_S_snapshot_reader r.2)]) (fun d => ∃ c, res = .inl c ∧ d = .ifc 191 (.agg [.int .i64 c])) := by
  unfold lf_Psnapshot_reader_atom_s1 at hr
  refine spec_envX [(0, .ref b_o0 0 [])] Tryz.func144 rfl rfl fun K hK hX => ?_
  refine g_seq ?_
  refine g_run (by kernel_rfl) [(0, .w)] rfl ?_
  refine r_w rfl rfl rfl (s_alloc rfl zv_api_Atom) ?_
  rintro _ _ ⟨b2_0, rfl, rfl⟩
  refine r_end ?_
  refine g_seq ?_
  refine g_run (by kernel_rfl) [(0, .d), (1, .w), (2, .d)] rfl ?_
  refine r_d rfl rfl rfl (s_move rfl rfl) ?_
  rcases bindXS hr with ⟨c_r_2, hr_2, rfl⟩ | ⟨r_2, hr_2, hr⟩
  ·
   refine r_die rfl rfl (s_callX _ rfl cl_Psnapshot_reader_text (.cons rfl (Wk.refl _) .nil) (by exact (pf1 _ _ _)) (specX_inl (lg_Psnapshot_reader_text_s1 _ _ _ hr_2))) (hX _ ⟨_, rfl, rfl⟩)
  ·
   refine r_w rfl rfl rfl (s_call _ rfl cl_Psnapshot_reader_text (.cons rfl (Wk.refl _) .nil) (by exact (pf1 _ _ _)) (specX_inr (lg_Psnapshot_reader_text_s1 _ _ _ hr_2))) ?_
   rintro _ _ ⟨_, ⟨rfl, rfl⟩, rfl⟩
   refine r_st ((.cell b_o0 (enc_S_snapshot_reader r_2.2)) :: _) rfl ?_
   refine r_d rfl rfl rfl (s_assign rfl rfl) ?_
   refine r_end ?_
   refine g_seq ?_
   refine g_run (by kernel_rfl) [(0, .d), (1, .d), (2, .w), (3, .d), (4, .w)] rfl ?_
   refine r_d rfl rfl rfl (s_move rfl rfl) ?_
   refine r_d rfl rfl rfl (s_move rfl rfl) ?_
   rcases bindXS hr with ⟨c_r_3, hr_3, rfl⟩ | ⟨r_3, hr_3, hr⟩
   ·
    refine r_die rfl rfl (s_callX _ rfl cl_Psnapshot_reader_args (.cons rfl (Wk.refl _) (.cons rfl (Wk.refl _) .nil)) (by exact (pf0 _)) (specX_inl (lg_Psnapshot_reader_args_s1 fuel _ _ _ _ hr_3))) (hX _ ⟨_, rfl, rfl⟩)
   ·
    refine r_w rfl rfl rfl (s_call _ rfl cl_Psnapshot_reader_args (.cons rfl (Wk.refl _) (.cons rfl (Wk.refl _) .nil)) (by exact (pf0 _)) (specX_inr (lg_Psnapshot_reader_args_s1 fuel _ _ _ _ hr_3))) ?_
    rintro _ _ ⟨_, ⟨rfl, rfl⟩, rfl⟩
    refine r_st ((.cell b_o0 (enc_S_snapshot_reader r_3.2)) :: _) rfl ?_
    refine r_d rfl rfl rfl (s_build rfl bt_api_Atom (.cons rfl (Wk.refl _) (.cons rfl (Wk.refl _) .nil)) (.cons rfl rfl rfl (.cons rfl rfl rfl (.nil _)))) ?_
    refine r_w01 rfl rfl rfl (t_store0 _ rfl rfl rfl (Wk.refl _) (pf1 _ _ _) (by exact ty_api_Atom) rfl rfl rfl) ?_
    refine r_end ?_
    refine g_freeze 2 b2_0 rfl (pf0 _) ?_
    obtain rfl := Option.some.inj hr
    refine g_ret Tryz.func144 _ (.cons (resPtr rfl (by exact ty_api_Atom) rfl (Wk.refl _)) .nil) ?_
    exact ⟨_, rfl, rfl, rfl⟩

noncomputable def lf_snapshot_take_s4_L0 (k : ((List At)) → (S_snapshot_reader) → Option (Int ⊕ ((List At) × S_snapshot_reader))) (fuel : Nat) : Nat → (List At) → S_snapshot_reader → Option (Int ⊕ ((List At) × S_snapshot_reader))
  | 0, out_5, r_7 =>
  (k out_5 r_7)
  | rest + 1, out_5, r_7 =>
  (bindX (lf_Psnapshot_reader_atom_s1 fuel r_7) fun r_11 =>
  ((appO 40 out_5 [r_11.1]).bind fun l_12 =>
  (lf_snapshot_take_s4_L0 k fuel rest l_12 r_11.2)))
noncomputable def lf_snapshot_take_s4 (fuel : Nat) (most_a1 : Int) (c_0 : S_snapshot_reader) : Option (Int ⊕ ((List At) × S_snapshot_reader)) :=
  (bindX (lf_Psnapshot_reader_number_s1 0 most_a1 c_0) fun r_3 =>
  (lf_snapshot_take_s4_L0 (fun out_9 r_10 =>
  some (.inr (out_9, r_10))) fuel (r_3.1 - 0 : Int).toNat [] r_3.2))

set_option maxHeartbeats 1000000 in
theorem lg_snapshot_take_s4 (fuel : Nat) (most_a1 : Int) (c_0 : S_snapshot_reader) (b_o0 : Nat) (res : Int ⊕ ((List At) × S_snapshot_reader)) (hr : lf_snapshot_take_s4 fuel most_a1 c_0 = some res) : SpecX Tryz.prog 143 [.ref b_o0 0 [], .int .i64 most_a1, .clo (.func 144) [.ref b_o0 0 []] []] [.cell b_o0 (enc_S_snapshot_reader c_0)] (fun d σ => ∃ r : (List At) × S_snapshot_reader, res = .inr r ∧ d = .lst (r.1.map encA) ∧ σ = [.cell b_o0 (enc_S_snapshot_reader r.2)]) (fun d => ∃ c, res = .inl c ∧ d = .ifc 191 (.agg [.int .i64 c])) := by
  unfold lf_snapshot_take_s4 at hr
  refine spec_envX [(0, .ref b_o0 0 []), (1, .int .i64 most_a1), (2, .clo (.func 144) [.ref b_o0 0 []] [])] Tryz.func143 rfl rfl fun K hK hX => ?_
  refine g_seq ?_
  refine g_run (by kernel_rfl) [(0, .w)] rfl ?_
  refine r_w rfl rfl rfl (s_nilOwn 107 2 (.inl rfl)) ?_
  rintro _ _ ⟨u6_0, rfl, rfl⟩
  refine r_end ?_
  refine g_seq ?_
  refine g_run (by kernel_rfl) [(0, .w)] rfl ?_
  refine r_w rfl rfl rfl (s_nilOwn 107 2 (.inl rfl)) ?_
  rintro _ _ ⟨u7_1, rfl, rfl⟩
  refine r_end ?_
  refine g_seq ?_
  refine g_seq ?_
  refine g_run (by kernel_rfl) [(0, .d), (1, .d), (2, .w), (3, .d)] rfl ?_
  refine r_d rfl rfl rfl (s_move rfl rfl) ?_
  refine r_d rfl rfl rfl (s_move rfl rfl) ?_
  rcases bindXS hr with ⟨c_r_3, hr_3, rfl⟩ | ⟨r_3, hr_3, hr⟩
  ·
   refine r_die rfl rfl (s_callX _ rfl cl_Psnapshot_reader_number (.cons rfl (Wk.refl _) (.cons rfl (Wk.refl _) (.cons rfl (Wk.refl _) .nil))) (by exact (pf2 _ _ _ _)) (specX_inl (lg_Psnapshot_reader_number_s1 _ _ _ _ _ hr_3))) (hX _ ⟨_, rfl, rfl⟩)
  ·
   refine r_w rfl rfl rfl (s_call _ rfl cl_Psnapshot_reader_number (.cons rfl (Wk.refl _) (.cons rfl (Wk.refl _) (.cons rfl (Wk.refl _) .nil))) (by exact (pf2 _ _ _ _)) (specX_inr (lg_Psnapshot_reader_number_s1 _ _ _ _ _ hr_3))) ?_
   rintro _ _ ⟨_, ⟨rfl, rfl⟩, rfl⟩
   refine r_st ((.cell b_o0 (enc_S_snapshot_reader r_3.2)) :: _) rfl ?_
   refine r_d rfl rfl rfl (s_move rfl rfl) ?_
   refine r_end ?_
   obtain ⟨kk0, hkk0, hr⟩ := exK (fun k => lf_snapshot_take_s4_L0 k fuel (r_3.1 - 0 : Int).toNat [] r_3.2) hr
   refine g_int 10 rfl fun hla0 => ?_
   refine g_blockJ (fun env σ => ∃ (out_9 : (List At)) (r_10 : S_snapshot_reader) (u_8 : Value), env = [(7, .own u_8 (out_9.map encA))] ∧ σ = [.row u_8 out_9.length 107 2, .cell b_o0 (enc_S_snapshot_reader r_10)] ∧ kk0 out_9 r_10 = some res) ?_ (fun HK0 => ?_)
   ·
    rintro _ _ ⟨out_9, r_10, u_8, rfl, rfl, hr⟩
    rw [hkk0] at hr
    refine g_seq ?_
    refine g_run (by kernel_rfl) [(0, .d), (1, .d)] rfl ?_
    refine r_d rfl rfl rfl (s_move rfl rfl) ?_
    refine r_d rfl rfl rfl (s_assign rfl rfl) ?_
    refine r_end ?_
    refine g_perm [_] _ (pf1 _ _ _) ?_
    obtain rfl := Option.some.inj hr
    refine g_ret Tryz.func143 _ (.cons (resTmp rfl (Wk.own _ _)) .nil) ?_
    exact ⟨_, rfl, rfl, rfl⟩
   ·
    refine g_sub [(2, .clo (.func 144) [.ref b_o0 0 []] []), (10, .int .i64 r_3.1), (7, .own u7_1 ([].map encA)), (11, .int .i64 0)] (Sub.cons' rfl (Sub.cons' rfl (Sub.cons' rfl (Sub.cons' rfl (Sub.nil _))))) ?_
    refine g_perm [_, _] _ ((pf1 _ _ _).trans (pf1 _ _ _)) ?_
    refine g_loop (fun n env σ => ∃ (out_5 : (List At)) (t11_6 : Int) (r_7 : S_snapshot_reader) (u_4 : Value) (m0 : Nat), (m0 = n) ∧ (env = [(2, .clo (.func 144) [.ref b_o0 0 []] []), (10, .int .i64 r_3.1), (7, .own u_4 (out_5.map encA)), (11, .int .i64 t11_6)]) ∧ (σ = [.cell b_o0 (enc_S_snapshot_reader r_7), .row u_4 out_5.length 107 2]) ∧ (m0 = (r_3.1 - t11_6 : Int).toNat) ∧ (lf_snapshot_take_s4_L0 kk0 fuel m0 out_5 r_7 = some res)) _ ⟨[], 0, r_3.2, u7_1, _, rfl, rfl, rfl, rfl, hr⟩ ?_
    rintro n _ _ ⟨out_5, t11_6, r_7, u_4, m0, rfl, rfl, rfl, hi0, hr⟩ IH0
    refine g_int 11 rfl fun hb0 => ?_
    rcases cntStep t11_6 r_3.1 m0 hi0 with ⟨hm0, ht0⟩ | ⟨m0', hm0, ht0, hi0', hlt0⟩
    ·
     rw [hm0, lf_snapshot_take_s4_L0] at hr
     refine g_seq ?_
     refine g_run (by kernel_rfl) [(0, .d)] rfl ?_
     refine r_d rfl rfl rfl (s_cmp rfl rfl rfl rfl) ?_
     refine r_end ?_
     refine g_seq ?_
     refine g_known 12 false rfl ht0 ?_
     refine g_condF rfl ?_
     refine g_exit rfl ?_
     refine g_sub [(7, .own u_4 (out_5.map encA))] (Sub.cons' rfl (Sub.nil _)) ?_
     refine g_perm [_, _] _ ((pf0 _).trans (pf1 _ _ _)) ?_
     exact HK0 _ _ ⟨out_5, r_7, u_4, rfl, rfl, hr⟩
    ·
     rw [hm0, lf_snapshot_take_s4_L0] at hr
     refine g_seq ?_
     refine g_run (by kernel_rfl) [(0, .d)] rfl ?_
     refine r_d rfl rfl rfl (s_cmp rfl rfl rfl rfl) ?_
     refine r_end ?_
     refine g_seq ?_
     refine g_int 10 rfl fun hbN10 => ?_
     refine g_known 12 true rfl ht0 ?_
     refine g_condT rfl ?_
     refine g_skip ?_
     refine g_seq ?_
     refine g_block ?_
     refine g_run (by kernel_rfl) [(0, .d), (1, .d), (2, .w), (3, .d), (4, .w), (5, .d)] rfl ?_
     refine r_d rfl rfl rfl (s_move rfl rfl) ?_
     refine r_d rfl rfl rfl (s_move rfl rfl) ?_
     rcases bindXS hr with ⟨c_r_11, hr_11, rfl⟩ | ⟨r_11, hr_11, hr⟩
     ·
      refine r_die rfl rfl (s_callVX _ rfl rfl cl_Psnapshot_reader_atom .nil rfl (by exact (pf0 _)) (specX_inl (lg_Psnapshot_reader_atom_s1 fuel _ _ _ hr_11))) (hX _ ⟨_, rfl, rfl⟩)
     ·
      refine r_w rfl rfl rfl (s_callV _ rfl rfl cl_Psnapshot_reader_atom .nil rfl (by exact (pf0 _)) (specX_inr (lg_Psnapshot_reader_atom_s1 fuel _ _ _ hr_11))) ?_
      rintro _ _ ⟨_, ⟨rfl, rfl⟩, rfl⟩
      refine r_st ((.cell b_o0 (enc_S_snapshot_reader r_11.2)) :: _) rfl ?_
      refine r_d rfl rfl rfl (m_lit (f := encA) [.tmp 15] [r_11.1] rfl el_L_api_Atom rfl rfl (by decide) (by decide) (.cons rfl (Wk.refl _) .nil) sz_encA (fun _ => rfl)) ?_
      obtain ⟨l_12, hl_12, hr⟩ := bindS hr
      refine r_w rfl rfl rfl (m_appOwn (f := encA) out_5 [r_11.1] rfl el_L_api_Atom rfl rfl (asl rfl) (pf1 _ _ _) rfl sz_encA hl_12) ?_
      rintro _ _ ⟨u17_12, rfl, rfl⟩
      refine r_d rfl rfl rfl (s_assign rfl rfl) ?_
      refine r_end ?_
      refine g_inBlock ?_
      refine g_run (by kernel_rfl) [(0, .d), (1, .d)] rfl ?_
      refine r_d rfl rfl rfl (s_ar (r := t11_6 + 1) rfl rfl rfl rfl (by omega)) ?_
      refine r_d rfl rfl rfl (s_move rfl rfl) ?_
      refine r_end ?_
      refine g_sub [(2, .clo (.func 144) [.ref b_o0 0 []] []), (10, .int .i64 r_3.1), (7, .own u17_12 (l_12.map encA)), (11, .int .i64 (t11_6 + 1))] (Sub.cons' rfl (Sub.cons' rfl (Sub.cons' rfl (Sub.cons' rfl (Sub.nil _))))) ?_
      refine g_perm [_, _] _ ((pf0 _).trans (pf1 _ _ _)) ?_
      exact IH0 _ _ _ (by omega) ⟨l_12, (t11_6 + 1), r_11.2, u17_12, _, rfl, rfl, rfl, hi0', hr⟩

noncomputable def lf_Psnapshot_reader_goal_s1 (fuel : Nat) (c_0 : S_snapshot_reader) : Option (Int ⊕ (Gl × S_snapshot_reader)) :=
  (bindX (lf_Psnapshot_reader_number_s1 0 12 c_0) fun r_2 =>
  (bindX (lf_Psnapshot_reader_text_s1 r_2.2) fun r_3 =>
  (bindX (lf_Psnapshot_reader_args_s1 fuel 0 r_3.2) fun r_4 =>
  some (.inr ((⟨r_2.1, r_3.1, r_4.1⟩ : Gl), r_4.2)))))

set_option maxHeartbeats 1000000 in
theorem lg_Psnapshot_reader_goal_s1 (fuel : Nat) (c_0 : S_snapshot_reader) (b_o0 : Nat) (res : Int ⊕ (Gl × S_snapshot_reader)) (hr : lf_Psnapshot_reader_goal_s1 fuel c_0 = some res) : SpecX Tryz.prog 146 [.ref b_o0 0 []] [.cell b_o0 (enc_S_snapshot_reader c_0)] (fun d σ => ∃ r : Gl × S_snapshot_reader, res = .inr r ∧ d = encG r.1 ∧ σ = [.cell b_o0 (enc_S_snapshot_reader r.2)]) (fun d => ∃ c, res = .inl c ∧ d = .ifc 191 (.agg [.int .i64 c])) := by
  unfold lf_Psnapshot_reader_goal_s1 at hr
  refine spec_envX [(0, .ref b_o0 0 [])] Tryz.func146 rfl rfl fun K hK hX => ?_
  refine g_seq ?_
  refine g_run (by kernel_rfl) [(0, .w)] rfl ?_
  refine r_w rfl rfl rfl (s_alloc rfl zv_api_Goal) ?_
  rintro _ _ ⟨b2_0, rfl, rfl⟩
  refine r_end ?_
  refine g_seq ?_
  refine g_run (by kernel_rfl) [(0, .d), (1, .w), (2, .d)] rfl ?_
  refine r_d rfl rfl rfl (s_move rfl rfl) ?_
  rcases bindXS hr with ⟨c_r_2, hr_2, rfl⟩ | ⟨r_2, hr_2, hr⟩
  ·
   refine r_die rfl rfl (s_callX _ rfl cl_Psnapshot_reader_number (.cons rfl (Wk.refl _) (.cons rfl (Wk.refl _) (.cons rfl (Wk.refl _) .nil))) (by exact (pf1 _ _ _)) (specX_inl (lg_Psnapshot_reader_number_s1 _ _ _ _ _ hr_2))) (hX _ ⟨_, rfl, rfl⟩)
  ·
   refine r_w rfl rfl rfl (s_call _ rfl cl_Psnapshot_reader_number (.cons rfl (Wk.refl _) (.cons rfl (Wk.refl _) (.cons rfl (Wk.refl _) .nil))) (by exact (pf1 _ _ _)) (specX_inr (lg_Psnapshot_reader_number_s1 _ _ _ _ _ hr_2))) ?_
   rintro _ _ ⟨_, ⟨rfl, rfl⟩, rfl⟩
   refine r_st ((.cell b_o0 (enc_S_snapshot_reader r_2.2)) :: _) rfl ?_
   refine r_d rfl rfl rfl (s_assign rfl rfl) ?_
   refine r_end ?_
   refine g_seq ?_
   refine g_run (by kernel_rfl) [(0, .d), (1, .w), (2, .d)] rfl ?_
   refine r_d rfl rfl rfl (s_move rfl rfl) ?_
   rcases bindXS hr with ⟨c_r_3, hr_3, rfl⟩ | ⟨r_3, hr_3, hr⟩
   ·
    refine r_die rfl rfl (s_callX _ rfl cl_Psnapshot_reader_text (.cons rfl (Wk.refl _) .nil) (by exact (pf0 _)) (specX_inl (lg_Psnapshot_reader_text_s1 _ _ _ hr_3))) (hX _ ⟨_, rfl, rfl⟩)
   ·
    refine r_w rfl rfl rfl (s_call _ rfl cl_Psnapshot_reader_text (.cons rfl (Wk.refl _) .nil) (by exact (pf0 _)) (specX_inr (lg_Psnapshot_reader_text_s1 _ _ _ hr_3))) ?_
    rintro _ _ ⟨_, ⟨rfl, rfl⟩, rfl⟩
    refine r_st ((.cell b_o0 (enc_S_snapshot_reader r_3.2)) :: _) rfl ?_
    refine r_d rfl rfl rfl (s_assign rfl rfl) ?_
    refine r_end ?_
    refine g_seq ?_
    refine g_run (by kernel_rfl) [(0, .d), (1, .d), (2, .d), (3, .w), (4, .d), (5, .w)] rfl ?_
    refine r_d rfl rfl rfl (s_move rfl rfl) ?_
    refine r_d rfl rfl rfl (s_move rfl rfl) ?_
    refine r_d rfl rfl rfl (s_move rfl rfl) ?_
    rcases bindXS hr with ⟨c_r_4, hr_4, rfl⟩ | ⟨r_4, hr_4, hr⟩
    ·
     refine r_die rfl rfl (s_callX _ rfl cl_Psnapshot_reader_args (.cons rfl (Wk.refl _) (.cons rfl (Wk.refl _) .nil)) (by exact (pf0 _)) (specX_inl (lg_Psnapshot_reader_args_s1 fuel _ _ _ _ hr_4))) (hX _ ⟨_, rfl, rfl⟩)
    ·
     refine r_w rfl rfl rfl (s_call _ rfl cl_Psnapshot_reader_args (.cons rfl (Wk.refl _) (.cons rfl (Wk.refl _) .nil)) (by exact (pf0 _)) (specX_inr (lg_Psnapshot_reader_args_s1 fuel _ _ _ _ hr_4))) ?_
     rintro _ _ ⟨_, ⟨rfl, rfl⟩, rfl⟩
     refine r_st ((.cell b_o0 (enc_S_snapshot_reader r_4.2)) :: _) rfl ?_
     refine r_d rfl rfl rfl (s_build rfl bt_api_Goal (.cons rfl (Wk.refl _) (.cons rfl (Wk.refl _) (.cons rfl (Wk.refl _) .nil))) (.cons rfl rfl rfl (.cons rfl rfl rfl (.cons rfl rfl rfl (.nil _))))) ?_
     refine r_w01 rfl rfl rfl (t_store0 _ rfl rfl rfl (Wk.refl _) (pf1 _ _ _) (by exact ty_api_Goal) rfl rfl rfl) ?_
     refine r_end ?_
     refine g_freeze 2 b2_0 rfl (pf0 _) ?_
     obtain rfl := Option.some.inj hr
     refine g_ret Tryz.func146 _ (.cons (resPtr rfl (by exact ty_api_Goal) rfl (Wk.refl _)) .nil) ?_
     exact ⟨_, rfl, rfl, rfl⟩

noncomputable def lf_snapshot_take_s5_L0 (k : ((List Gl)) → (S_snapshot_reader) → Option (Int ⊕ ((List Gl) × S_snapshot_reader))) (fuel : Nat) : Nat → (List Gl) → S_snapshot_reader → Option (Int ⊕ ((List Gl) × S_snapshot_reader))
  | 0, out_5, r_7 =>
  (k out_5 r_7)
  | rest + 1, out_5, r_7 =>
  (bindX (lf_Psnapshot_reader_goal_s1 fuel r_7) fun r_11 =>
  ((appO 48 out_5 [r_11.1]).bind fun l_12 =>
  (lf_snapshot_take_s5_L0 k fuel rest l_12 r_11.2)))
noncomputable def lf_snapshot_take_s5 (fuel : Nat) (most_a1 : Int) (c_0 : S_snapshot_reader) : Option (Int ⊕ ((List Gl) × S_snapshot_reader)) :=
  (bindX (lf_Psnapshot_reader_number_s1 0 most_a1 c_0) fun r_3 =>
  (lf_snapshot_take_s5_L0 (fun out_9 r_10 =>
  some (.inr (out_9, r_10))) fuel (r_3.1 - 0 : Int).toNat [] r_3.2))

set_option maxHeartbeats 1000000 in
theorem lg_snapshot_take_s5 (fuel : Nat) (most_a1 : Int) (c_0 : S_snapshot_reader) (b_o0 : Nat) (res : Int ⊕ ((List Gl) × S_snapshot_reader)) (hr : lf_snapshot_take_s5 fuel most_a1 c_0 = some res) : SpecX Tryz.prog 145 [.ref b_o0 0 [], .int .i64 most_a1, .clo (.func 146) [.ref b_o0 0 []] []] [.cell b_o0 (enc_S_snapshot_reader c_0)] (fun d σ => ∃ r : (List Gl) × S_snapshot_reader, res = .inr r ∧ d = .lst (r.1.map encG) ∧ σ = [.cell b_o0 (enc_S_snapshot_reader r.2)]) (fun d => ∃ c, res = .inl c ∧ d = .ifc 191 (.agg [.int .i64 c])) := by
  unfold lf_snapshot_take_s5 at hr
  refine spec_envX [(0, .ref b_o0 0 []), (1, .int .i64 most_a1), (2, .clo (.func 146) [.ref b_o0 0 []] [])] Tryz.func145 rfl rfl fun K hK hX => ?_
  refine g_seq ?_
  refine g_run (by kernel_rfl) [(0, .w)] rfl ?_
  refine r_w rfl rfl rfl (s_nilOwn 73 3 (.inl rfl)) ?_
  rintro _ _ ⟨u6_0, rfl, rfl⟩
  refine r_end ?_
  refine g_seq ?_
  refine g_run (by kernel_rfl) [(0, .w)] rfl ?_
  refine r_w rfl rfl rfl (s_nilOwn 73 3 (.inl rfl)) ?_
  rintro _ _ ⟨u7_1, rfl, rfl⟩
  refine r_end ?_
  refine g_seq ?_
  refine g_seq ?_
  refine g_run (by kernel_rfl) [(0, .d), (1, .d), (2, .w), (3, .d)] rfl ?_
  refine r_d rfl rfl rfl (s_move rfl rfl) ?_
  refine r_d rfl rfl rfl (s_move rfl rfl) ?_
  rcases bindXS hr with ⟨c_r_3, hr_3, rfl⟩ | ⟨r_3, hr_3, hr⟩
  ·
   refine r_die rfl rfl (s_callX _ rfl cl_Psnapshot_reader_number (.cons rfl (Wk.refl _) (.cons rfl (Wk.refl _) (.cons rfl (Wk.refl _) .nil))) (by exact (pf2 _ _ _ _)) (specX_inl (lg_Psnapshot_reader_number_s1 _ _ _ _ _ hr_3))) (hX _ ⟨_, rfl, rfl⟩)
  ·
   refine r_w rfl rfl rfl (s_call _ rfl cl_Psnapshot_reader_number (.cons rfl (Wk.refl _) (.cons rfl (Wk.refl _) (.cons rfl (Wk.refl _) .nil))) (by exact (pf2 _ _ _ _)) (specX_inr (lg_Psnapshot_reader_number_s1 _ _ _ _ _ hr_3))) ?_
   rintro _ _ ⟨_, ⟨rfl, rfl⟩, rfl⟩
   refine r_st ((.cell b_o0 (enc_S_snapshot_reader r_3.2)) :: _) rfl ?_
   refine r_d rfl rfl rfl (s_move rfl rfl) ?_
   refine r_end ?_
   obtain ⟨kk0, hkk0, hr⟩ := exK (fun k => lf_snapshot_take_s5_L0 k fuel (r_3.1 - 0 : Int).toNat [] r_3.2) hr
   refine g_int 10 rfl fun hla0 => ?_
   refine g_blockJ (fun env σ => ∃ (out_9 : (List Gl)) (r_10 : S_snapshot_reader) (u_8 : Value), env = [(7, .own u_8 (out_9.map encG))] ∧ σ = [.row u_8 out_9.length 73 3, .cell b_o0 (enc_S_snapshot_reader r_10)] ∧ kk0 out_9 r_10 = some res) ?_ (fun HK0 => ?_)
   ·
    rintro _ _ ⟨out_9, r_10, u_8, rfl, rfl, hr⟩
    rw [hkk0] at hr
    refine g_seq ?_
    refine g_run (by kernel_rfl) [(0, .d), (1, .d)] rfl ?_
    refine r_d rfl rfl rfl (s_move rfl rfl) ?_
    refine r_d rfl rfl rfl (s_assign rfl rfl) ?_
    refine r_end ?_
    refine g_perm [_] _ (pf1 _ _ _) ?_
    obtain rfl := Option.some.inj hr
    refine g_ret Tryz.func145 _ (.cons (resTmp rfl (Wk.own _ _)) .nil) ?_
    exact ⟨_, rfl, rfl, rfl⟩
   ·
    refine g_sub [(2, .clo (.func 146) [.ref b_o0 0 []] []), (10, .int .i64 r_3.1), (7, .own u7_1 ([].map encG)), (11, .int .i64 0)] (Sub.cons' rfl (Sub.cons' rfl (Sub.cons' rfl (Sub.cons' rfl (Sub.nil _))))) ?_
    refine g_perm [_, _] _ ((pf1 _ _ _).trans (pf1 _ _ _)) ?_
    refine g_loop (fun n env σ => ∃ (out_5 : (List Gl)) (t11_6 : Int) (r_7 : S_snapshot_reader) (u_4 : Value) (m0 : Nat), (m0 = n) ∧ (env = [(2, .clo (.func 146) [.ref b_o0 0 []] []), (10, .int .i64 r_3.1), (7, .own u_4 (out_5.map encG)), (11, .int .i64 t11_6)]) ∧ (σ = [.cell b_o0 (enc_S_snapshot_reader r_7), .row u_4 out_5.length 73 3]) ∧ (m0 = (r_3.1 - t11_6 : Int).toNat) ∧ (lf_snapshot_take_s5_L0 kk0 fuel m0 out_5 r_7 = some res)) _ ⟨[], 0, r_3.2, u7_1, _, rfl, rfl, rfl, rfl, hr⟩ ?_
    rintro n _ _ ⟨out_5, t11_6, r_7, u_4, m0, rfl, rfl, rfl, hi0, hr⟩ IH0
    refine g_int 11 rfl fun hb0 => ?_
    rcases cntStep t11_6 r_3.1 m0 hi0 with ⟨hm0, ht0⟩ | ⟨m0', hm0, ht0, hi0', hlt0⟩
    ·
     rw [hm0, lf_snapshot_take_s5_L0] at hr
     refine g_seq ?_
     refine g_run (by kernel_rfl) [(0, .d)] rfl ?_
     refine r_d rfl rfl rfl (s_cmp rfl rfl rfl rfl) ?_
     refine r_end ?_
     refine g_seq ?_
     refine g_known 12 false rfl ht0 ?_
     refine g_condF rfl ?_
     refine g_exit rfl ?_
     refine g_sub [(7, .own u_4 (out_5.map encG))] (Sub.cons' rfl (Sub.nil _)) ?_
     refine g_perm [_, _] _ ((pf0 _).trans (pf1 _ _ _)) ?_
     exact HK0 _ _ ⟨out_5, r_7, u_4, rfl, rfl, hr⟩
    ·
     rw [hm0, lf_snapshot_take_s5_L0] at hr
     refine g_seq ?_
     refine g_run (by kernel_rfl) [(0, .d)] rfl ?_
     refine r_d rfl rfl rfl (s_cmp rfl rfl rfl rfl) ?_
     refine r_end ?_
     refine g_seq ?_
     refine g_int 10 rfl fun hbN10 => ?_
     refine g_known 12 true rfl ht0 ?_
     refine g_condT rfl ?_
     refine g_skip ?_
     refine g_seq ?_
     refine g_block ?_
     refine g_run (by kernel_rfl) [(0, .d), (1, .d), (2, .w), (3, .d), (4, .w), (5, .d)] rfl ?_
     refine r_d rfl rfl rfl (s_move rfl rfl) ?_
     refine r_d rfl rfl rfl (s_move rfl rfl) ?_
     rcases bindXS hr with ⟨c_r_11, hr_11, rfl⟩ | ⟨r_11, hr_11, hr⟩
     ·
      refine r_die rfl rfl (s_callVX _ rfl rfl cl_Psnapshot_reader_goal .nil rfl (by exact (pf0 _)) (specX_inl (lg_Psnapshot_reader_goal_s1 fuel _ _ _ hr_11))) (hX _ ⟨_, rfl, rfl⟩)
     ·
      refine r_w rfl rfl rfl (s_callV _ rfl rfl cl_Psnapshot_reader_goal .nil rfl (by exact (pf0 _)) (specX_inr (lg_Psnapshot_reader_goal_s1 fuel _ _ _ hr_11))) ?_
      rintro _ _ ⟨_, ⟨rfl, rfl⟩, rfl⟩
      refine r_st ((.cell b_o0 (enc_S_snapshot_reader r_11.2)) :: _) rfl ?_
      refine r_d rfl rfl rfl (m_lit (f := encG) [.tmp 15] [r_11.1] rfl el_L_api_Goal rfl rfl (by decide) (by decide) (.cons rfl (Wk.refl _) .nil) sz_encG (fun _ => rfl)) ?_
      obtain ⟨l_12, hl_12, hr⟩ := bindS hr
      refine r_w rfl rfl rfl (m_appOwn (f := encG) out_5 [r_11.1] rfl el_L_api_Goal rfl rfl (asl rfl) (pf1 _ _ _) rfl sz_encG hl_12) ?_
      rintro _ _ ⟨u17_12, rfl, rfl⟩
      refine r_d rfl rfl rfl (s_assign rfl rfl) ?_
      refine r_end ?_
      refine g_inBlock ?_
      refine g_run (by kernel_rfl) [(0, .d), (1, .d)] rfl ?_
      refine r_d rfl rfl rfl (s_ar (r := t11_6 + 1) rfl rfl rfl rfl (by omega)) ?_
      refine r_d rfl rfl rfl (s_move rfl rfl) ?_
      refine r_end ?_
      refine g_sub [(2, .clo (.func 146) [.ref b_o0 0 []] []), (10, .int .i64 r_3.1), (7, .own u17_12 (l_12.map encG)), (11, .int .i64 (t11_6 + 1))] (Sub.cons' rfl (Sub.cons' rfl (Sub.cons' rfl (Sub.cons' rfl (Sub.nil _))))) ?_
      refine g_perm [_, _] _ ((pf0 _).trans (pf1 _ _ _)) ?_
      exact IH0 _ _ _ (by omega) ⟨l_12, (t11_6 + 1), r_11.2, u17_12, _, rfl, rfl, rfl, hi0', hr⟩

noncomputable def lf_Psnapshot_reader_rule_s1 (fuel : Nat) (c_0 : S_snapshot_reader) : Option (Int ⊕ (S_api_Rule × S_snapshot_reader)) :=
  (bindX (lf_Psnapshot_reader_text_s1 c_0) fun r_2 =>
  (bindX (lf_snapshot_take_s4 fuel 4 r_2.2) fun r_3 =>
  (bindX (lf_snapshot_take_s4 fuel 4 r_3.2) fun r_4 =>
  (bindX (lf_snapshot_take_s5 fuel 12 r_4.2) fun r_5 =>
  (bindX (lf_snapshot_take_s5 fuel 12 r_5.2) fun r_6 =>
  (bindX (lf_Psnapshot_reader_number_s1 0 1048576 r_6.2) fun r_7 =>
  some (.inr ((⟨r_2.1, r_3.1, r_4.1, r_5.1, r_6.1, r_7.1⟩ : S_api_Rule), r_7.2))))))))

set_option maxHeartbeats 1000000 in
theorem lg_Psnapshot_reader_rule_s1 (fuel : Nat) (c_0 : S_snapshot_reader) (b_o0 : Nat) (res : Int ⊕ (S_api_Rule × S_snapshot_reader)) (hr : lf_Psnapshot_reader_rule_s1 fuel c_0 = some res) : SpecX Tryz.prog 53 [.ref b_o0 0 []] [.cell b_o0 (enc_S_snapshot_reader c_0)] (fun d σ => ∃ r : S_api_Rule × S_snapshot_reader, res = .inr r ∧ d = enc_S_api_Rule r.1 ∧ σ = [.cell b_o0 (enc_S_snapshot_reader r.2)]) (fun d => ∃ c, res = .inl c ∧ d = .ifc 191 (.agg [.int .i64 c])) := by
  unfold lf_Psnapshot_reader_rule_s1 at hr
  refine spec_envX [(0, .ref b_o0 0 [])] Tryz.func53 rfl rfl fun K hK hX => ?_
  refine g_seq ?_
  refine g_run (by kernel_rfl) [(0, .w)] rfl ?_
  refine r_w rfl rfl rfl (s_alloc rfl zv_api_Rule) ?_
  rintro _ _ ⟨b2_0, rfl, rfl⟩
  refine r_end ?_
  refine g_seq ?_
  refine g_run (by kernel_rfl) [(0, .d), (1, .w), (2, .d), (3, .w)] rfl ?_
  refine r_d rfl rfl rfl (s_move rfl rfl) ?_
  rcases bindXS hr with ⟨c_r_2, hr_2, rfl⟩ | ⟨r_2, hr_2, hr⟩
  ·
   refine r_die rfl rfl (s_callX _ rfl cl_Psnapshot_reader_text (.cons rfl (Wk.refl _) .nil) (by exact (pf1 _ _ _)) (specX_inl (lg_Psnapshot_reader_text_s1 _ _ _ hr_2))) (hX _ ⟨_, rfl, rfl⟩)
  ·
   refine r_w rfl rfl rfl (s_call _ rfl cl_Psnapshot_reader_text (.cons rfl (Wk.refl _) .nil) (by exact (pf1 _ _ _)) (specX_inr (lg_Psnapshot_reader_text_s1 _ _ _ hr_2))) ?_
   rintro _ _ ⟨_, ⟨rfl, rfl⟩, rfl⟩
   refine r_st ((.cell b_o0 (enc_S_snapshot_reader r_2.2)) :: _) rfl ?_
   refine r_d rfl rfl rfl (s_fieldRef rfl fl_api_Rule_0 rfl) ?_
   refine r_w01 rfl rfl rfl (t_store _ rfl rfl rfl (Wk.refl _) (pf1 _ _ _) rfl rfl (by exact ty_string) rfl rfl rfl) ?_
   refine r_end ?_
   refine g_seq ?_
   refine g_run (by kernel_rfl) [(0, .d), (1, .d), (2, .d), (3, .w), (4, .d), (5, .w)] rfl ?_
   refine r_d rfl rfl rfl (s_move rfl rfl) ?_
   refine r_d rfl rfl rfl (s_move rfl rfl) ?_
   refine r_d rfl rfl rfl (s_makeFunc rfl rfl rfl) ?_
   rcases bindXS hr with ⟨c_r_3, hr_3, rfl⟩ | ⟨r_3, hr_3, hr⟩
   ·
    refine r_die rfl rfl (s_callX _ rfl cl_snapshot_take_api_Atom (.cons rfl (Wk.refl _) (.cons rfl (Wk.refl _) (.cons rfl (Wk.refl _) .nil))) (by exact (pf1 _ _ _)) (specX_inl (lg_snapshot_take_s4 fuel _ _ _ _ hr_3))) (hX _ ⟨_, rfl, rfl⟩)
   ·
    refine r_w rfl rfl rfl (s_call _ rfl cl_snapshot_take_api_Atom (.cons rfl (Wk.refl _) (.cons rfl (Wk.refl _) (.cons rfl (Wk.refl _) .nil))) (by exact (pf1 _ _ _)) (specX_inr (lg_snapshot_take_s4 fuel _ _ _ _ hr_3))) ?_
    rintro _ _ ⟨_, ⟨rfl, rfl⟩, rfl⟩
    refine r_st ((.cell b_o0 (enc_S_snapshot_reader r_3.2)) :: _) rfl ?_
    refine r_d rfl rfl rfl (s_fieldRef rfl fl_api_Rule_1 rfl) ?_
    refine r_w01 rfl rfl rfl (t_store _ rfl rfl rfl (Wk.refl _) (pf1 _ _ _) rfl rfl (by exact ty_L_api_Atom) rfl rfl rfl) ?_
    refine r_end ?_
    refine g_seq ?_
    refine g_run (by kernel_rfl) [(0, .d), (1, .d), (2, .d), (3, .w), (4, .d), (5, .w)] rfl ?_
    refine r_d rfl rfl rfl (s_move rfl rfl) ?_
    refine r_d rfl rfl rfl (s_move rfl rfl) ?_
    refine r_d rfl rfl rfl (s_makeFunc rfl rfl rfl) ?_
    rcases bindXS hr with ⟨c_r_4, hr_4, rfl⟩ | ⟨r_4, hr_4, hr⟩
    ·
     refine r_die rfl rfl (s_callX _ rfl cl_snapshot_take_api_Atom (.cons rfl (Wk.refl _) (.cons rfl (Wk.refl _) (.cons rfl (Wk.refl _) .nil))) (by exact (pf1 _ _ _)) (specX_inl (lg_snapshot_take_s4 fuel _ _ _ _ hr_4))) (hX _ ⟨_, rfl, rfl⟩)
    ·
     refine r_w rfl rfl rfl (s_call _ rfl cl_snapshot_take_api_Atom (.cons rfl (Wk.refl _) (.cons rfl (Wk.refl _) (.cons rfl (Wk.refl _) .nil))) (by exact (pf1 _ _ _)) (specX_inr (lg_snapshot_take_s4 fuel _ _ _ _ hr_4))) ?_
     rintro _ _ ⟨_, ⟨rfl, rfl⟩, rfl⟩
     refine r_st ((.cell b_o0 (enc_S_snapshot_reader r_4.2)) :: _) rfl ?_
     refine r_d rfl rfl rfl (s_fieldRef rfl fl_api_Rule_2 rfl) ?_
     refine r_w01 rfl rfl rfl (t_store _ rfl rfl rfl (Wk.refl _) (pf1 _ _ _) rfl rfl (by exact ty_L_api_Atom) rfl rfl rfl) ?_
     refine r_end ?_
     refine g_seq ?_
     refine g_run (by kernel_rfl) [(0, .d), (1, .d), (2, .d), (3, .w), (4, .d), (5, .w)] rfl ?_
     refine r_d rfl rfl rfl (s_move rfl rfl) ?_
     refine r_d rfl rfl rfl (s_move rfl rfl) ?_
     refine r_d rfl rfl rfl (s_makeFunc rfl rfl rfl) ?_
     rcases bindXS hr with ⟨c_r_5, hr_5, rfl⟩ | ⟨r_5, hr_5, hr⟩
     ·
      refine r_die rfl rfl (s_callX _ rfl cl_snapshot_take_api_Goal (.cons rfl (Wk.refl _) (.cons rfl (Wk.refl _) (.cons rfl (Wk.refl _) .nil))) (by exact (pf1 _ _ _)) (specX_inl (lg_snapshot_take_s5 fuel _ _ _ _ hr_5))) (hX _ ⟨_, rfl, rfl⟩)
     ·
      refine r_w rfl rfl rfl (s_call _ rfl cl_snapshot_take_api_Goal (.cons rfl (Wk.refl _) (.cons rfl (Wk.refl _) (.cons rfl (Wk.refl _) .nil))) (by exact (pf1 _ _ _)) (specX_inr (lg_snapshot_take_s5 fuel _ _ _ _ hr_5))) ?_
      rintro _ _ ⟨_, ⟨rfl, rfl⟩, rfl⟩
      refine r_st ((.cell b_o0 (enc_S_snapshot_reader r_5.2)) :: _) rfl ?_
      refine r_d rfl rfl rfl (s_fieldRef rfl fl_api_Rule_3 rfl) ?_
      refine r_w01 rfl rfl rfl (t_store _ rfl rfl rfl (Wk.refl _) (pf1 _ _ _) rfl rfl (by exact ty_L_api_Goal) rfl rfl rfl) ?_
      refine r_end ?_
      refine g_seq ?_
      refine g_run (by kernel_rfl) [(0, .d), (1, .d), (2, .d), (3, .w), (4, .d), (5, .w)] rfl ?_
      refine r_d rfl rfl rfl (s_move rfl rfl) ?_
      refine r_d rfl rfl rfl (s_move rfl rfl) ?_
      refine r_d rfl rfl rfl (s_makeFunc rfl rfl rfl) ?_
      rcases bindXS hr with ⟨c_r_6, hr_6, rfl⟩ | ⟨r_6, hr_6, hr⟩
      ·
       refine r_die rfl rfl (s_callX _ rfl cl_snapshot_take_api_Goal (.cons rfl (Wk.refl _) (.cons rfl (Wk.refl _) (.cons rfl (Wk.refl _) .nil))) (by exact (pf1 _ _ _)) (specX_inl (lg_snapshot_take_s5 fuel _ _ _ _ hr_6))) (hX _ ⟨_, rfl, rfl⟩)
      ·
       refine r_w rfl rfl rfl (s_call _ rfl cl_snapshot_take_api_Goal (.cons rfl (Wk.refl _) (.cons rfl (Wk.refl _) (.cons rfl (Wk.refl _) .nil))) (by exact (pf1 _ _ _)) (specX_inr (lg_snapshot_take_s5 fuel _ _ _ _ hr_6))) ?_
       rintro _ _ ⟨_, ⟨rfl, rfl⟩, rfl⟩
       refine r_st ((.cell b_o0 (enc_S_snapshot_reader r_6.2)) :: _) rfl ?_
       refine r_d rfl rfl rfl (s_fieldRef rfl fl_api_Rule_4 rfl) ?_
       refine r_w01 rfl rfl rfl (t_store _ rfl rfl rfl (Wk.refl _) (pf1 _ _ _) rfl rfl (by exact ty_L_api_Goal) rfl rfl rfl) ?_
       refine r_end ?_
       refine g_seq ?_
       refine g_run (by kernel_rfl) [(0, .d), (1, .w), (2, .d), (3, .w)] rfl ?_
       refine r_d rfl rfl rfl (s_move rfl rfl) ?_
       rcases bindXS hr with ⟨c_r_7, hr_7, rfl⟩ | ⟨r_7, hr_7, hr⟩
       ·
        refine r_die rfl rfl (s_callX _ rfl cl_Psnapshot_reader_number (.cons rfl (Wk.refl _) (.cons rfl (Wk.refl _) (.cons rfl (Wk.refl _) .nil))) (by exact (pf1 _ _ _)) (specX_inl (lg_Psnapshot_reader_number_s1 _ _ _ _ _ hr_7))) (hX _ ⟨_, rfl, rfl⟩)
       ·
        refine r_w rfl rfl rfl (s_call _ rfl cl_Psnapshot_reader_number (.cons rfl (Wk.refl _) (.cons rfl (Wk.refl _) (.cons rfl (Wk.refl _) .nil))) (by exact (pf1 _ _ _)) (specX_inr (lg_Psnapshot_reader_number_s1 _ _ _ _ _ hr_7))) ?_
        rintro _ _ ⟨_, ⟨rfl, rfl⟩, rfl⟩
        refine r_st ((.cell b_o0 (enc_S_snapshot_reader r_7.2)) :: _) rfl ?_
        refine r_d rfl rfl rfl (s_fieldRef rfl fl_api_Rule_5 rfl) ?_
        refine r_w01 rfl rfl rfl (t_store _ rfl rfl rfl (Wk.refl _) (pf1 _ _ _) rfl rfl (by exact ty_int) rfl rfl rfl) ?_
        refine r_end ?_
        refine g_seq ?_
        refine g_run (by kernel_rfl) [(0, .r), (1, .w)] rfl ?_
        refine r_r rfl rfl rfl (t_loadRef rfl rfl (.head _) rfl rfl (by exact ty_api_Rule) rfl) ?_
        refine r_w01 rfl rfl rfl (t_store0 _ rfl rfl rfl (Wk.refl _) (pf0 _) (by exact ty_api_Rule) rfl rfl rfl) ?_
        refine r_end ?_
        refine g_freeze 2 b2_0 rfl (pf0 _) ?_
        obtain rfl := Option.some.inj hr
        refine g_ret Tryz.func53 _ (.cons (resPtr rfl (by exact ty_api_Rule) rfl (Wk.refl _)) .nil) ?_
        exact ⟨_, rfl, rfl, rfl⟩

noncomputable def lf_snapshot_take_s3_L0 (k : ((List S_api_Rule)) → (S_snapshot_reader) → Option (Int ⊕ ((List S_api_Rule) × S_snapshot_reader))) (fuel : Nat) : Nat → (List S_api_Rule) → S_snapshot_reader → Option (Int ⊕ ((List S_api_Rule) × S_snapshot_reader))
  | 0, out_5, r_7 =>
  (k out_5 r_7)
  | rest + 1, out_5, r_7 =>
  (bindX (lf_Psnapshot_reader_rule_s1 fuel r_7) fun r_11 =>
  ((appO 120 out_5 [r_11.1]).bind fun l_12 =>
  (lf_snapshot_take_s3_L0 k fuel rest l_12 r_11.2)))
noncomputable def lf_snapshot_take_s3 (fuel : Nat) (most_a1 : Int) (c_0 : S_snapshot_reader) : Option (Int ⊕ ((List S_api_Rule) × S_snapshot_reader)) :=
  (bindX (lf_Psnapshot_reader_number_s1 0 most_a1 c_0) fun r_3 =>
  (lf_snapshot_take_s3_L0 (fun out_9 r_10 =>
  some (.inr (out_9, r_10))) fuel (r_3.1 - 0 : Int).toNat [] r_3.2))

set_option maxHeartbeats 1000000 in
theorem lg_snapshot_take_s3 (fuel : Nat) (most_a1 : Int) (c_0 : S_snapshot_reader) (b_o0 : Nat) (res : Int ⊕ ((List S_api_Rule) × S_snapshot_reader)) (hr : lf_snapshot_take_s3 fuel most_a1 c_0 = some res) : SpecX Tryz.prog 52 [.ref b_o0 0 [], .int .i64 most_a1, .clo (.func 53) [.ref b_o0 0 []] []] [.cell b_o0 (enc_S_snapshot_reader c_0)] (fun d σ => ∃ r : (List S_api_Rule) × S_snapshot_reader, res = .inr r ∧ d = .lst (r.1.map enc_S_api_Rule) ∧ σ = [.cell b_o0 (enc_S_snapshot_reader r.2)]) (fun d => ∃ c, res = .inl c ∧ d = .ifc 191 (.agg [.int .i64 c])) := by
  unfold lf_snapshot_take_s3 at hr
  refine spec_envX [(0, .ref b_o0 0 []), (1, .int .i64 most_a1), (2, .clo (.func 53) [.ref b_o0 0 []] [])] Tryz.func52 rfl rfl fun K hK hX => ?_
  refine g_seq ?_
  refine g_run (by kernel_rfl) [(0, .w)] rfl ?_
  refine r_w rfl rfl rfl (s_nilOwn 68 6 (.inl rfl)) ?_
  rintro _ _ ⟨u6_0, rfl, rfl⟩
  refine r_end ?_
  refine g_seq ?_
  refine g_run (by kernel_rfl) [(0, .w)] rfl ?_
  refine r_w rfl rfl rfl (s_nilOwn 68 6 (.inl rfl)) ?_
  rintro _ _ ⟨u7_1, rfl, rfl⟩
  refine r_end ?_
  refine g_seq ?_
  refine g_seq ?_
  refine g_run (by kernel_rfl) [(0, .d), (1, .d), (2, .w), (3, .d)] rfl ?_
  refine r_d rfl rfl rfl (s_move rfl rfl) ?_
  refine r_d rfl rfl rfl (s_move rfl rfl) ?_
  rcases bindXS hr with ⟨c_r_3, hr_3, rfl⟩ | ⟨r_3, hr_3, hr⟩
  ·
   refine r_die rfl rfl (s_callX _ rfl cl_Psnapshot_reader_number (.cons rfl (Wk.refl _) (.cons rfl (Wk.refl _) (.cons rfl (Wk.refl _) .nil))) (by exact (pf2 _ _ _ _)) (specX_inl (lg_Psnapshot_reader_number_s1 _ _ _ _ _ hr_3))) (hX _ ⟨_, rfl, rfl⟩)
  ·
   refine r_w rfl rfl rfl (s_call _ rfl cl_Psnapshot_reader_number (.cons rfl (Wk.refl _) (.cons rfl (Wk.refl _) (.cons rfl (Wk.refl _) .nil))) (by exact (pf2 _ _ _ _)) (specX_inr (lg_Psnapshot_reader_number_s1 _ _ _ _ _ hr_3))) ?_
   rintro _ _ ⟨_, ⟨rfl, rfl⟩, rfl⟩
   refine r_st ((.cell b_o0 (enc_S_snapshot_reader r_3.2)) :: _) rfl ?_
   refine r_d rfl rfl rfl (s_move rfl rfl) ?_
   refine r_end ?_
   obtain ⟨kk0, hkk0, hr⟩ := exK (fun k => lf_snapshot_take_s3_L0 k fuel (r_3.1 - 0 : Int).toNat [] r_3.2) hr
   refine g_int 10 rfl fun hla0 => ?_
   refine g_blockJ (fun env σ => ∃ (out_9 : (List S_api_Rule)) (r_10 : S_snapshot_reader) (u_8 : Value), env = [(7, .own u_8 (out_9.map enc_S_api_Rule))] ∧ σ = [.row u_8 out_9.length 68 6, .cell b_o0 (enc_S_snapshot_reader r_10)] ∧ kk0 out_9 r_10 = some res) ?_ (fun HK0 => ?_)
   ·
    rintro _ _ ⟨out_9, r_10, u_8, rfl, rfl, hr⟩
    rw [hkk0] at hr
    refine g_seq ?_
    refine g_run (by kernel_rfl) [(0, .d), (1, .d)] rfl ?_
    refine r_d rfl rfl rfl (s_move rfl rfl) ?_
    refine r_d rfl rfl rfl (s_assign rfl rfl) ?_
    refine r_end ?_
    refine g_perm [_] _ (pf1 _ _ _) ?_
    obtain rfl := Option.some.inj hr
    refine g_ret Tryz.func52 _ (.cons (resTmp rfl (Wk.own _ _)) .nil) ?_
    exact ⟨_, rfl, rfl, rfl⟩
   ·
    refine g_sub [(2, .clo (.func 53) [.ref b_o0 0 []] []), (10, .int .i64 r_3.1), (7, .own u7_1 ([].map enc_S_api_Rule)), (11, .int .i64 0)] (Sub.cons' rfl (Sub.cons' rfl (Sub.cons' rfl (Sub.cons' rfl (Sub.nil _))))) ?_
    refine g_perm [_, _] _ ((pf1 _ _ _).trans (pf1 _ _ _)) ?_
    refine g_loop (fun n env σ => ∃ (out_5 : (List S_api_Rule)) (t11_6 : Int) (r_7 : S_snapshot_reader) (u_4 : Value) (m0 : Nat), (m0 = n) ∧ (env = [(2, .clo (.func 53) [.ref b_o0 0 []] []), (10, .int .i64 r_3.1), (7, .own u_4 (out_5.map enc_S_api_Rule)), (11, .int .i64 t11_6)]) ∧ (σ = [.cell b_o0 (enc_S_snapshot_reader r_7), .row u_4 out_5.length 68 6]) ∧ (m0 = (r_3.1 - t11_6 : Int).toNat) ∧ (lf_snapshot_take_s3_L0 kk0 fuel m0 out_5 r_7 = some res)) _ ⟨[], 0, r_3.2, u7_1, _, rfl, rfl, rfl, rfl, hr⟩ ?_
    rintro n _ _ ⟨out_5, t11_6, r_7, u_4, m0, rfl, rfl, rfl, hi0, hr⟩ IH0
    refine g_int 11 rfl fun hb0 => ?_
    rcases cntStep t11_6 r_3.1 m0 hi0 with ⟨hm0, ht0⟩ | ⟨m0', hm0, ht0, hi0', hlt0⟩
    ·
     rw [hm0, lf_snapshot_take_s3_L0] at hr
     refine g_seq ?_
     refine g_run (by kernel_rfl) [(0, .d)] rfl ?_
     refine r_d rfl rfl rfl (s_cmp rfl rfl rfl rfl) ?_
     refine r_end ?_
     refine g_seq ?_
     refine g_known 12 false rfl ht0 ?_
     refine g_condF rfl ?_
     refine g_exit rfl ?_
     refine g_sub [(7, .own u_4 (out_5.map enc_S_api_Rule))] (Sub.cons' rfl (Sub.nil _)) ?_
     refine g_perm [_, _] _ ((pf0 _).trans (pf1 _ _ _)) ?_
     exact HK0 _ _ ⟨out_5, r_7, u_4, rfl, rfl, hr⟩
    ·
     rw [hm0, lf_snapshot_take_s3_L0] at hr
     refine g_seq ?_
     refine g_run (by kernel_rfl) [(0, .d)] rfl ?_
     refine r_d rfl rfl rfl (s_cmp rfl rfl rfl rfl) ?_
     refine r_end ?_
     refine g_seq ?_
     refine g_int 10 rfl fun hbN10 => ?_
     refine g_known 12 true rfl ht0 ?_
     refine g_condT rfl ?_
     refine g_skip ?_
     refine g_seq ?_
     refine g_block ?_
     refine g_run (by kernel_rfl) [(0, .d), (1, .d), (2, .w), (3, .d), (4, .w), (5, .d)] rfl ?_
     refine r_d rfl rfl rfl (s_move rfl rfl) ?_
     refine r_d rfl rfl rfl (s_move rfl rfl) ?_
     rcases bindXS hr with ⟨c_r_11, hr_11, rfl⟩ | ⟨r_11, hr_11, hr⟩
     ·
      refine r_die rfl rfl (s_callVX _ rfl rfl cl_Psnapshot_reader_rule .nil rfl (by exact (pf0 _)) (specX_inl (lg_Psnapshot_reader_rule_s1 fuel _ _ _ hr_11))) (hX _ ⟨_, rfl, rfl⟩)
     ·
      refine r_w rfl rfl rfl (s_callV _ rfl rfl cl_Psnapshot_reader_rule .nil rfl (by exact (pf0 _)) (specX_inr (lg_Psnapshot_reader_rule_s1 fuel _ _ _ hr_11))) ?_
      rintro _ _ ⟨_, ⟨rfl, rfl⟩, rfl⟩
      refine r_st ((.cell b_o0 (enc_S_snapshot_reader r_11.2)) :: _) rfl ?_
      refine r_d rfl rfl rfl (m_lit (f := enc_S_api_Rule) [.tmp 15] [r_11.1] rfl el_L_api_Rule rfl rfl (by decide) (by decide) (.cons rfl (Wk.refl _) .nil) sz_S_api_Rule (fun _ => rfl)) ?_
      obtain ⟨l_12, hl_12, hr⟩ := bindS hr
      refine r_w rfl rfl rfl (m_appOwn (f := enc_S_api_Rule) out_5 [r_11.1] rfl el_L_api_Rule rfl rfl (asl rfl) (pf1 _ _ _) rfl sz_S_api_Rule hl_12) ?_
      rintro _ _ ⟨u17_12, rfl, rfl⟩
      refine r_d rfl rfl rfl (s_assign rfl rfl) ?_
      refine r_end ?_
      refine g_inBlock ?_
      refine g_run (by kernel_rfl) [(0, .d), (1, .d)] rfl ?_
      refine r_d rfl rfl rfl (s_ar (r := t11_6 + 1) rfl rfl rfl rfl (by omega)) ?_
      refine r_d rfl rfl rfl (s_move rfl rfl) ?_
      refine r_end ?_
      refine g_sub [(2, .clo (.func 53) [.ref b_o0 0 []] []), (10, .int .i64 r_3.1), (7, .own u17_12 (l_12.map enc_S_api_Rule)), (11, .int .i64 (t11_6 + 1))] (Sub.cons' rfl (Sub.cons' rfl (Sub.cons' rfl (Sub.cons' rfl (Sub.nil _))))) ?_
      refine g_perm [_, _] _ ((pf0 _).trans (pf1 _ _ _)) ?_
      exact IH0 _ _ _ (by omega) ⟨l_12, (t11_6 + 1), r_11.2, u17_12, _, rfl, rfl, rfl, hi0', hr⟩

noncomputable def lf_snapshot_TakeProgram_1_s1 (fuel : Nat) (c_0 : S_snapshot_reader) : Option (Int ⊕ (S_api_Program × S_snapshot_reader)) :=
  (bindX (lf_snapshot_take_s2 30 c_0) fun r_2 =>
  (bindX (lf_snapshot_take_s3 fuel 40 r_2.2) fun r_3 =>
  some (.inr ((⟨r_2.1, r_3.1⟩ : S_api_Program), r_3.2))))

set_option maxHeartbeats 1000000 in
theorem lg_snapshot_TakeProgram_1_s1 (fuel : Nat) (c_0 : S_snapshot_reader) (b_o0 : Nat) (res : Int ⊕ (S_api_Program × S_snapshot_reader)) (hr : lf_snapshot_TakeProgram_1_s1 fuel c_0 = some res) : SpecX Tryz.prog 47 [.ref b_o0 0 []] [.cell b_o0 (enc_S_snapshot_reader c_0)] (fun d σ => ∃ r : S_api_Program × S_snapshot_reader, res = .inr r ∧ d = enc_S_api_Program r.1 ∧ σ = [.cell b_o0 (enc_S_snapshot_reader r.2)]) (fun d => ∃ c, res = .inl c ∧ d = .ifc 191 (.agg [.int .i64 c])) := by
  unfold lf_snapshot_TakeProgram_1_s1 at hr
  refine spec_envX [(0, .ref b_o0 0 [])] Tryz.func47 rfl rfl fun K hK hX => ?_
  refine g_seq ?_
  refine g_run (by kernel_rfl) [(0, .d), (1, .w)] rfl ?_
  refine r_d rfl rfl rfl (s_box rfl rfl rfl) ?_
  refine r_w rfl rfl rfl (s_alloc rfl zv_api_Program) ?_
  rintro _ _ ⟨b2_0, rfl, rfl⟩
  refine r_end ?_
  refine g_seq ?_
  refine g_run (by kernel_rfl) [(0, .d), (1, .d), (2, .w), (3, .d), (4, .w)] rfl ?_
  refine r_d rfl rfl rfl (s_load rfl rfl (by exact ty_P_snapshot_reader) rfl) ?_
  refine r_d rfl rfl rfl (s_makeFunc rfl rfl rfl) ?_
  rcases bindXS hr with ⟨c_r_2, hr_2, rfl⟩ | ⟨r_2, hr_2, hr⟩
  ·
   refine r_die rfl rfl (s_callX _ rfl cl_snapshot_take_api_Decl (.cons rfl (Wk.refl _) (.cons rfl (Wk.refl _) (.cons rfl (Wk.refl _) .nil))) (by exact (pf1 _ _ _)) (specX_inl (lg_snapshot_take_s2 _ _ _ _ hr_2))) (hX _ ⟨_, rfl, rfl⟩)
  ·
   refine r_w rfl rfl rfl (s_call _ rfl cl_snapshot_take_api_Decl (.cons rfl (Wk.refl _) (.cons rfl (Wk.refl _) (.cons rfl (Wk.refl _) .nil))) (by exact (pf1 _ _ _)) (specX_inr (lg_snapshot_take_s2 _ _ _ _ hr_2))) ?_
   rintro _ _ ⟨_, ⟨rfl, rfl⟩, rfl⟩
   refine r_st ((.cell b_o0 (enc_S_snapshot_reader r_2.2)) :: _) rfl ?_
   refine r_d rfl rfl rfl (s_fieldRef rfl fl_api_Program_0 rfl) ?_
   refine r_w01 rfl rfl rfl (t_store _ rfl rfl rfl (Wk.refl _) (pf1 _ _ _) rfl rfl (by exact ty_L_api_Decl) rfl rfl rfl) ?_
   refine r_end ?_
   refine g_seq ?_
   refine g_run (by kernel_rfl) [(0, .d), (1, .d), (2, .d), (3, .w), (4, .d), (5, .w)] rfl ?_
   refine r_d rfl rfl rfl (s_load rfl rfl (by exact ty_P_snapshot_reader) rfl) ?_
   refine r_d rfl rfl rfl (s_load rfl rfl (by exact ty_P_snapshot_reader) rfl) ?_
   refine r_d rfl rfl rfl (s_makeFunc rfl rfl rfl) ?_
   rcases bindXS hr with ⟨c_r_3, hr_3, rfl⟩ | ⟨r_3, hr_3, hr⟩
   ·
    refine r_die rfl rfl (s_callX _ rfl cl_snapshot_take_api_Rule (.cons rfl (Wk.refl _) (.cons rfl (Wk.refl _) (.cons rfl (Wk.refl _) .nil))) (by exact (pf1 _ _ _)) (specX_inl (lg_snapshot_take_s3 fuel _ _ _ _ hr_3))) (hX _ ⟨_, rfl, rfl⟩)
   ·
    refine r_w rfl rfl rfl (s_call _ rfl cl_snapshot_take_api_Rule (.cons rfl (Wk.refl _) (.cons rfl (Wk.refl _) (.cons rfl (Wk.refl _) .nil))) (by exact (pf1 _ _ _)) (specX_inr (lg_snapshot_take_s3 fuel _ _ _ _ hr_3))) ?_
    rintro _ _ ⟨_, ⟨rfl, rfl⟩, rfl⟩
    refine r_st ((.cell b_o0 (enc_S_snapshot_reader r_3.2)) :: _) rfl ?_
    refine r_d rfl rfl rfl (s_fieldRef rfl fl_api_Program_1 rfl) ?_
    refine r_w01 rfl rfl rfl (t_store _ rfl rfl rfl (Wk.refl _) (pf1 _ _ _) rfl rfl (by exact ty_L_api_Rule) rfl rfl rfl) ?_
    refine r_end ?_
    refine g_seq ?_
    refine g_run (by kernel_rfl) [(0, .r), (1, .w)] rfl ?_
    refine r_r rfl rfl rfl (t_loadRef rfl rfl (.head _) rfl rfl (by exact ty_api_Program) rfl) ?_
    refine r_w01 rfl rfl rfl (t_store0 _ rfl rfl rfl (Wk.refl _) (pf0 _) (by exact ty_api_Program) rfl rfl rfl) ?_
    refine r_end ?_
    refine g_freeze 2 b2_0 rfl (pf0 _) ?_
    obtain rfl := Option.some.inj hr
    refine g_ret Tryz.func47 _ (.cons (resPtr rfl (by exact ty_api_Program) rfl (Wk.refl _)) .nil) ?_
    exact ⟨_, rfl, rfl, rfl⟩

noncomputable def lf_Psnapshot_reader_frame_s1 (fuel : Nat) (c_0 : S_snapshot_reader) : Option (Int ⊕ (S_api_Frame × S_snapshot_reader)) :=
  (bindX (lf_Psnapshot_reader_number_s1 0 2147483648 c_0) fun r_2 =>
  (bindX (lf_Psnapshot_reader_number_s1 (-1) 2147483648 r_2.2) fun r_3 =>
  (bif (r_2.1 == (0 : Int)) then
  (bindX (lf_Psnapshot_reader_goal_s1 fuel r_3.2) fun r_5 =>
  some (.inr ((⟨r_5.1, r_2.1, r_3.1⟩ : S_api_Frame), r_5.2)))
  else
  some (.inr ((⟨(⟨0, ⟨#[]⟩, []⟩ : Gl), r_2.1, r_3.1⟩ : S_api_Frame), r_3.2)))))

set_option maxHeartbeats 1000000 in
theorem lg_Psnapshot_reader_frame_s1 (fuel : Nat) (c_0 : S_snapshot_reader) (b_o0 : Nat) (res : Int ⊕ (S_api_Frame × S_snapshot_reader)) (hr : lf_Psnapshot_reader_frame_s1 fuel c_0 = some res) : SpecX Tryz.prog 79 [.ref b_o0 0 []] [.cell b_o0 (enc_S_snapshot_reader c_0)] (fun d σ => ∃ r : S_api_Frame × S_snapshot_reader, res = .inr r ∧ d = enc_S_api_Frame r.1 ∧ σ = [.cell b_o0 (enc_S_snapshot_reader r.2)]) (fun d => ∃ c, res = .inl c ∧ d = .ifc 191 (.agg [.int .i64 c])) := by
  unfold lf_Psnapshot_reader_frame_s1 at hr
  refine spec_envX [(0, .ref b_o0 0 [])] Tryz.func79 rfl rfl fun K hK hX => ?_
  refine g_seq ?_
  refine g_run (by kernel_rfl) [(0, .w)] rfl ?_
  refine r_w rfl rfl rfl (s_alloc rfl zv_api_Frame) ?_
  rintro _ _ ⟨b2_0, rfl, rfl⟩
  refine r_end ?_
  refine g_seq ?_
  refine g_run (by kernel_rfl) [(0, .d), (1, .w), (2, .d), (3, .w)] rfl ?_
  refine r_d rfl rfl rfl (s_move rfl rfl) ?_
  rcases bindXS hr with ⟨c_r_2, hr_2, rfl⟩ | ⟨r_2, hr_2, hr⟩
  ·
   refine r_die rfl rfl (s_callX _ rfl cl_Psnapshot_reader_number (.cons rfl (Wk.refl _) (.cons rfl (Wk.refl _) (.cons rfl (Wk.refl _) .nil))) (by exact (pf1 _ _ _)) (specX_inl (lg_Psnapshot_reader_number_s1 _ _ _ _ _ hr_2))) (hX _ ⟨_, rfl, rfl⟩)
  ·
   refine r_w rfl rfl rfl (s_call _ rfl cl_Psnapshot_reader_number (.cons rfl (Wk.refl _) (.cons rfl (Wk.refl _) (.cons rfl (Wk.refl _) .nil))) (by exact (pf1 _ _ _)) (specX_inr (lg_Psnapshot_reader_number_s1 _ _ _ _ _ hr_2))) ?_
   rintro _ _ ⟨_, ⟨rfl, rfl⟩, rfl⟩
   refine r_st ((.cell b_o0 (enc_S_snapshot_reader r_2.2)) :: _) rfl ?_
   refine r_d rfl rfl rfl (s_fieldRef rfl fl_api_Frame_1 rfl) ?_
   refine r_w01 rfl rfl rfl (t_store _ rfl rfl rfl (Wk.refl _) (pf1 _ _ _) rfl (by first | rfl | simp [offD, szs, sz, szs_fsT, sz_encA, sz_encG]) (by exact ty_int) rfl rfl rfl) ?_
   refine r_end ?_
   refine g_seq ?_
   refine g_run (by kernel_rfl) [(0, .d), (1, .w), (2, .d), (3, .w)] rfl ?_
   refine r_d rfl rfl rfl (s_move rfl rfl) ?_
   rcases bindXS hr with ⟨c_r_3, hr_3, rfl⟩ | ⟨r_3, hr_3, hr⟩
   ·
    refine r_die rfl rfl (s_callX _ rfl cl_Psnapshot_reader_number (.cons rfl (Wk.refl _) (.cons rfl (Wk.refl _) (.cons rfl (Wk.refl _) .nil))) (by exact (pf1 _ _ _)) (specX_inl (lg_Psnapshot_reader_number_s1 _ _ _ _ _ hr_3))) (hX _ ⟨_, rfl, rfl⟩)
   ·
    refine r_w rfl rfl rfl (s_call _ rfl cl_Psnapshot_reader_number (.cons rfl (Wk.refl _) (.cons rfl (Wk.refl _) (.cons rfl (Wk.refl _) .nil))) (by exact (pf1 _ _ _)) (specX_inr (lg_Psnapshot_reader_number_s1 _ _ _ _ _ hr_3))) ?_
    rintro _ _ ⟨_, ⟨rfl, rfl⟩, rfl⟩
    refine r_st ((.cell b_o0 (enc_S_snapshot_reader r_3.2)) :: _) rfl ?_
    refine r_d rfl rfl rfl (s_fieldRef rfl fl_api_Frame_2 rfl) ?_
    refine r_w01 rfl rfl rfl (t_store _ rfl rfl rfl (Wk.refl _) (pf1 _ _ _) rfl (by first | rfl | simp [offD, szs, sz, szs_fsT, sz_encA, sz_encG]) (by exact ty_int) rfl rfl rfl) ?_
    refine r_end ?_
    refine g_seq ?_
    refine g_seq ?_
    refine g_run (by kernel_rfl) [(0, .d), (1, .r), (2, .d)] rfl ?_
    refine r_d rfl rfl rfl (s_fieldRef rfl fl_api_Frame_1 rfl) ?_
    refine r_r rfl rfl rfl (t_loadRef rfl rfl (.head _) rfl (by first | rfl | simp [offD, szs, sz, szs_fsT, sz_encA, sz_encG]) (by exact ty_int) rfl) ?_
    refine r_d rfl rfl rfl (s_cmp rfl rfl rfl rfl) ?_
    refine r_end ?_
    refine g_sB 11 rfl hr (fun h11_3 hr => ?_) (fun h11_3 hr => ?_)
    ·
     refine g_condT rfl ?_
     refine g_run (by kernel_rfl) [(0, .d), (1, .w), (2, .d), (3, .w)] rfl ?_
     refine r_d rfl rfl rfl (s_move rfl rfl) ?_
     rcases bindXS hr with ⟨c_r_5, hr_5, rfl⟩ | ⟨r_5, hr_5, hr⟩
     ·
      refine r_die rfl rfl (s_callX _ rfl cl_Psnapshot_reader_goal (.cons rfl (Wk.refl _) .nil) (by exact (pf1 _ _ _)) (specX_inl (lg_Psnapshot_reader_goal_s1 fuel _ _ _ hr_5))) (hX _ ⟨_, rfl, rfl⟩)
     ·
      refine r_w rfl rfl rfl (s_call _ rfl cl_Psnapshot_reader_goal (.cons rfl (Wk.refl _) .nil) (by exact (pf1 _ _ _)) (specX_inr (lg_Psnapshot_reader_goal_s1 fuel _ _ _ hr_5))) ?_
      rintro _ _ ⟨_, ⟨rfl, rfl⟩, rfl⟩
      refine r_st ((.cell b_o0 (enc_S_snapshot_reader r_5.2)) :: _) rfl ?_
      refine r_d rfl rfl rfl (s_fieldRef rfl fl_api_Frame_0 rfl) ?_
      refine r_w01 rfl rfl rfl (t_store _ rfl rfl rfl (Wk.refl _) (pf1 _ _ _) rfl (by first | rfl | simp [offD, szs, sz, szs_fsT, sz_encA, sz_encG]) (by exact ty_api_Goal) (sz_encG _) rfl rfl) ?_
      refine r_end ?_
      refine g_seq ?_
      refine g_run (by kernel_rfl) [(0, .r), (1, .w)] rfl ?_
      refine r_r rfl rfl rfl (t_loadRef rfl rfl (.head _) rfl rfl (by exact ty_api_Frame) (by first | rfl | simp [sz, szs, szs_fsT, sz_encG])) ?_
      refine r_w01 rfl rfl rfl (t_store0 _ rfl rfl rfl (Wk.refl _) (pf0 _) (by exact ty_api_Frame) (by first | rfl | simp [sz, szs, szs_fsT, sz_encG]) (by first | rfl | simp [sz, szs, szs_fsT, sz_encG]) rfl) ?_
      refine r_end ?_
      refine g_freeze 2 b2_0 rfl (pf0 _) ?_
      obtain rfl := Option.some.inj hr
      refine g_ret Tryz.func79 _ (.cons (resPtr rfl (by exact ty_api_Frame) (by first | rfl | simp [sz, szs, szs_fsT, sz_encG]) (Wk.refl _)) .nil) ?_
      exact ⟨_, rfl, rfl, rfl⟩
    ·
     refine g_condF rfl ?_
     refine g_skip ?_
     refine g_seq ?_
     refine g_run (by kernel_rfl) [(0, .r), (1, .w)] rfl ?_
     refine r_r rfl rfl rfl (t_loadRef rfl rfl (.head _) rfl rfl (by exact ty_api_Frame) (by first | rfl | simp [sz, szs, szs_fsT, sz_encG])) ?_
     refine r_w01 rfl rfl rfl (t_store0 _ rfl rfl rfl (Wk.refl _) (pf0 _) (by exact ty_api_Frame) (by first | rfl | simp [sz, szs, szs_fsT, sz_encG]) (by first | rfl | simp [sz, szs, szs_fsT, sz_encG]) rfl) ?_
     refine r_end ?_
     refine g_freeze 2 b2_0 rfl (pf0 _) ?_
     obtain rfl := Option.some.inj hr
     refine g_ret Tryz.func79 _ (.cons (resPtr rfl (by exact ty_api_Frame) (by first | rfl | simp [sz, szs, szs_fsT, sz_encG]) (Wk.refl _)) .nil) ?_
     exact ⟨_, rfl, rfl, rfl⟩

noncomputable def lf_snapshot_take_s6_L0 (k : ((List S_api_Frame)) → (S_snapshot_reader) → Option (Int ⊕ ((List S_api_Frame) × S_snapshot_reader))) (fuel : Nat) : Nat → (List S_api_Frame) → S_snapshot_reader → Option (Int ⊕ ((List S_api_Frame) × S_snapshot_reader))
  | 0, out_5, r_7 =>
  (k out_5 r_7)
  | rest + 1, out_5, r_7 =>
  (bindX (lf_Psnapshot_reader_frame_s1 fuel r_7) fun r_11 =>
  ((appO 64 out_5 [r_11.1]).bind fun l_12 =>
  (lf_snapshot_take_s6_L0 k fuel rest l_12 r_11.2)))
noncomputable def lf_snapshot_take_s6 (fuel : Nat) (most_a1 : Int) (c_0 : S_snapshot_reader) : Option (Int ⊕ ((List S_api_Frame) × S_snapshot_reader)) :=
  (bindX (lf_Psnapshot_reader_number_s1 0 most_a1 c_0) fun r_3 =>
  (lf_snapshot_take_s6_L0 (fun out_9 r_10 =>
  some (.inr (out_9, r_10))) fuel (r_3.1 - 0 : Int).toNat [] r_3.2))

set_option maxHeartbeats 1000000 in
theorem lg_snapshot_take_s6 (fuel : Nat) (most_a1 : Int) (c_0 : S_snapshot_reader) (b_o0 : Nat) (res : Int ⊕ ((List S_api_Frame) × S_snapshot_reader)) (hr : lf_snapshot_take_s6 fuel most_a1 c_0 = some res) : SpecX Tryz.prog 78 [.ref b_o0 0 [], .int .i64 most_a1, .clo (.func 79) [.ref b_o0 0 []] []] [.cell b_o0 (enc_S_snapshot_reader c_0)] (fun d σ => ∃ r : (List S_api_Frame) × S_snapshot_reader, res = .inr r ∧ d = .lst (r.1.map enc_S_api_Frame) ∧ σ = [.cell b_o0 (enc_S_snapshot_reader r.2)]) (fun d => ∃ c, res = .inl c ∧ d = .ifc 191 (.agg [.int .i64 c])) := by
  unfold lf_snapshot_take_s6 at hr
  refine spec_envX [(0, .ref b_o0 0 []), (1, .int .i64 most_a1), (2, .clo (.func 79) [.ref b_o0 0 []] [])] Tryz.func78 rfl rfl fun K hK hX => ?_
  refine g_seq ?_
  refine g_run (by kernel_rfl) [(0, .w)] rfl ?_
  refine r_w rfl rfl rfl (s_nilOwn 75 5 (.inl rfl)) ?_
  rintro _ _ ⟨u6_0, rfl, rfl⟩
  refine r_end ?_
  refine g_seq ?_
  refine g_run (by kernel_rfl) [(0, .w)] rfl ?_
  refine r_w rfl rfl rfl (s_nilOwn 75 5 (.inl rfl)) ?_
  rintro _ _ ⟨u7_1, rfl, rfl⟩
  refine r_end ?_
  refine g_seq ?_
  refine g_seq ?_
  refine g_run (by kernel_rfl) [(0, .d), (1, .d), (2, .w), (3, .d)] rfl ?_
  refine r_d rfl rfl rfl (s_move rfl rfl) ?_
  refine r_d rfl rfl rfl (s_move rfl rfl) ?_
  rcases bindXS hr with ⟨c_r_3, hr_3, rfl⟩ | ⟨r_3, hr_3, hr⟩
  ·
   refine r_die rfl rfl (s_callX _ rfl cl_Psnapshot_reader_number (.cons rfl (Wk.refl _) (.cons rfl (Wk.refl _) (.cons rfl (Wk.refl _) .nil))) (by exact (pf2 _ _ _ _)) (specX_inl (lg_Psnapshot_reader_number_s1 _ _ _ _ _ hr_3))) (hX _ ⟨_, rfl, rfl⟩)
  ·
   refine r_w rfl rfl rfl (s_call _ rfl cl_Psnapshot_reader_number (.cons rfl (Wk.refl _) (.cons rfl (Wk.refl _) (.cons rfl (Wk.refl _) .nil))) (by exact (pf2 _ _ _ _)) (specX_inr (lg_Psnapshot_reader_number_s1 _ _ _ _ _ hr_3))) ?_
   rintro _ _ ⟨_, ⟨rfl, rfl⟩, rfl⟩
   refine r_st ((.cell b_o0 (enc_S_snapshot_reader r_3.2)) :: _) rfl ?_
   refine r_d rfl rfl rfl (s_move rfl rfl) ?_
   refine r_end ?_
   obtain ⟨kk0, hkk0, hr⟩ := exK (fun k => lf_snapshot_take_s6_L0 k fuel (r_3.1 - 0 : Int).toNat [] r_3.2) hr
   refine g_int 10 rfl fun hla0 => ?_
   refine g_blockJ (fun env σ => ∃ (out_9 : (List S_api_Frame)) (r_10 : S_snapshot_reader) (u_8 : Value), env = [(7, .own u_8 (out_9.map enc_S_api_Frame))] ∧ σ = [.row u_8 out_9.length 75 5, .cell b_o0 (enc_S_snapshot_reader r_10)] ∧ kk0 out_9 r_10 = some res) ?_ (fun HK0 => ?_)
   ·
    rintro _ _ ⟨out_9, r_10, u_8, rfl, rfl, hr⟩
    rw [hkk0] at hr
    refine g_seq ?_
    refine g_run (by kernel_rfl) [(0, .d), (1, .d)] rfl ?_
    refine r_d rfl rfl rfl (s_move rfl rfl) ?_
    refine r_d rfl rfl rfl (s_assign rfl rfl) ?_
    refine r_end ?_
    refine g_perm [_] _ (pf1 _ _ _) ?_
    obtain rfl := Option.some.inj hr
    refine g_ret Tryz.func78 _ (.cons (resTmp rfl (Wk.own _ _)) .nil) ?_
    exact ⟨_, rfl, rfl, rfl⟩
   ·
    refine g_sub [(2, .clo (.func 79) [.ref b_o0 0 []] []), (10, .int .i64 r_3.1), (7, .own u7_1 ([].map enc_S_api_Frame)), (11, .int .i64 0)] (Sub.cons' rfl (Sub.cons' rfl (Sub.cons' rfl (Sub.cons' rfl (Sub.nil _))))) ?_
    refine g_perm [_, _] _ ((pf1 _ _ _).trans (pf1 _ _ _)) ?_
    refine g_loop (fun n env σ => ∃ (out_5 : (List S_api_Frame)) (t11_6 : Int) (r_7 : S_snapshot_reader) (u_4 : Value) (m0 : Nat), (m0 = n) ∧ (env = [(2, .clo (.func 79) [.ref b_o0 0 []] []), (10, .int .i64 r_3.1), (7, .own u_4 (out_5.map enc_S_api_Frame)), (11, .int .i64 t11_6)]) ∧ (σ = [.cell b_o0 (enc_S_snapshot_reader r_7), .row u_4 out_5.length 75 5]) ∧ (m0 = (r_3.1 - t11_6 : Int).toNat) ∧ (lf_snapshot_take_s6_L0 kk0 fuel m0 out_5 r_7 = some res)) _ ⟨[], 0, r_3.2, u7_1, _, rfl, rfl, rfl, rfl, hr⟩ ?_
    rintro n _ _ ⟨out_5, t11_6, r_7, u_4, m0, rfl, rfl, rfl, hi0, hr⟩ IH0
    refine g_int 11 rfl fun hb0 => ?_
    rcases cntStep t11_6 r_3.1 m0 hi0 with ⟨hm0, ht0⟩ | ⟨m0', hm0, ht0, hi0', hlt0⟩
    ·
     rw [hm0, lf_snapshot_take_s6_L0] at hr
     refine g_seq ?_
     refine g_run (by kernel_rfl) [(0, .d)] rfl ?_
     refine r_d rfl rfl rfl (s_cmp rfl rfl rfl rfl) ?_
     refine r_end ?_
     refine g_seq ?_
     refine g_known 12 false rfl ht0 ?_
     refine g_condF rfl ?_
     refine g_exit rfl ?_
     refine g_sub [(7, .own u_4 (out_5.map enc_S_api_Frame))] (Sub.cons' rfl (Sub.nil _)) ?_
     refine g_perm [_, _] _ ((pf0 _).trans (pf1 _ _ _)) ?_
     exact HK0 _ _ ⟨out_5, r_7, u_4, rfl, rfl, hr⟩
    ·
     rw [hm0, lf_snapshot_take_s6_L0] at hr
     refine g_seq ?_
     refine g_run (by kernel_rfl) [(0, .d)] rfl ?_
     refine r_d rfl rfl rfl (s_cmp rfl rfl rfl rfl) ?_
     refine r_end ?_
     refine g_seq ?_
     refine g_int 10 rfl fun hbN10 => ?_
     refine g_known 12 true rfl ht0 ?_
     refine g_condT rfl ?_
     refine g_skip ?_
     refine g_seq ?_
     refine g_block ?_
     refine g_run (by kernel_rfl) [(0, .d), (1, .d), (2, .w), (3, .d), (4, .w), (5, .d)] rfl ?_
     refine r_d rfl rfl rfl (s_move rfl rfl) ?_
     refine r_d rfl rfl rfl (s_move rfl rfl) ?_
     rcases bindXS hr with ⟨c_r_11, hr_11, rfl⟩ | ⟨r_11, hr_11, hr⟩
     ·
      refine r_die rfl rfl (s_callVX _ rfl rfl cl_Psnapshot_reader_frame .nil rfl (by exact (pf0 _)) (specX_inl (lg_Psnapshot_reader_frame_s1 fuel _ _ _ hr_11))) (hX _ ⟨_, rfl, rfl⟩)
     ·
      refine r_w rfl rfl rfl (s_callV _ rfl rfl cl_Psnapshot_reader_frame .nil rfl (by exact (pf0 _)) (specX_inr (lg_Psnapshot_reader_frame_s1 fuel _ _ _ hr_11))) ?_
      rintro _ _ ⟨_, ⟨rfl, rfl⟩, rfl⟩
      refine r_st ((.cell b_o0 (enc_S_snapshot_reader r_11.2)) :: _) rfl ?_
      refine r_d rfl rfl rfl (m_lit (f := enc_S_api_Frame) [.tmp 15] [r_11.1] rfl el_L_api_Frame rfl rfl (by decide) (by decide) (.cons rfl (Wk.refl _) .nil) sz_S_api_Frame (fun _ => rfl)) ?_
      obtain ⟨l_12, hl_12, hr⟩ := bindS hr
      refine r_w rfl rfl rfl (m_appOwn (f := enc_S_api_Frame) out_5 [r_11.1] rfl el_L_api_Frame rfl rfl (asl rfl) (pf1 _ _ _) rfl sz_S_api_Frame hl_12) ?_
      rintro _ _ ⟨u17_12, rfl, rfl⟩
      refine r_d rfl rfl rfl (s_assign rfl rfl) ?_
      refine r_end ?_
      refine g_inBlock ?_
      refine g_run (by kernel_rfl) [(0, .d), (1, .d)] rfl ?_
      refine r_d rfl rfl rfl (s_ar (r := t11_6 + 1) rfl rfl rfl rfl (by omega)) ?_
      refine r_d rfl rfl rfl (s_move rfl rfl) ?_
      refine r_end ?_
      refine g_sub [(2, .clo (.func 79) [.ref b_o0 0 []] []), (10, .int .i64 r_3.1), (7, .own u17_12 (l_12.map enc_S_api_Frame)), (11, .int .i64 (t11_6 + 1))] (Sub.cons' rfl (Sub.cons' rfl (Sub.cons' rfl (Sub.cons' rfl (Sub.nil _))))) ?_
      refine g_perm [_, _] _ ((pf0 _).trans (pf1 _ _ _)) ?_
      exact IH0 _ _ _ (by omega) ⟨l_12, (t11_6 + 1), r_11.2, u17_12, _, rfl, rfl, rfl, hi0', hr⟩

noncomputable def lf_Psnapshot_reader_item_s1 (fuel : Nat) (c_0 : S_snapshot_reader) : Option (Int ⊕ ((Int × At) × S_snapshot_reader)) :=
  (bindX (lf_Psnapshot_reader_number_s1 0 2147483648 c_0) fun r_2 =>
  (bindX (lf_Psnapshot_reader_atom_s1 fuel r_2.2) fun r_3 =>
  some (.inr ((r_2.1, r_3.1), r_3.2))))

set_option maxHeartbeats 1000000 in
theorem lg_Psnapshot_reader_item_s1 (fuel : Nat) (c_0 : S_snapshot_reader) (b_o0 : Nat) (res : Int ⊕ ((Int × At) × S_snapshot_reader)) (hr : lf_Psnapshot_reader_item_s1 fuel c_0 = some res) : SpecX Tryz.prog 81 [.ref b_o0 0 []] [.cell b_o0 (enc_S_snapshot_reader c_0)] (fun d σ => ∃ r : (Int × At) × S_snapshot_reader, res = .inr r ∧ d = encIt r.1 ∧ σ = [.cell b_o0 (enc_S_snapshot_reader r.2)]) (fun d => ∃ c, res = .inl c ∧ d = .ifc 191 (.agg [.int .i64 c])) := by
  unfold lf_Psnapshot_reader_item_s1 at hr
  refine spec_envX [(0, .ref b_o0 0 [])] Tryz.func81 rfl rfl fun K hK hX => ?_
  refine g_seq ?_
  refine g_run (by kernel_rfl) [(0, .w)] rfl ?_
  refine r_w rfl rfl rfl (s_alloc rfl zv_api_Item) ?_
  rintro _ _ ⟨b2_0, rfl, rfl⟩
  refine r_end ?_
  refine g_seq ?_
  refine g_run (by kernel_rfl) [(0, .d), (1, .w), (2, .d)] rfl ?_
  refine r_d rfl rfl rfl (s_move rfl rfl) ?_
  rcases bindXS hr with ⟨c_r_2, hr_2, rfl⟩ | ⟨r_2, hr_2, hr⟩
  ·
   refine r_die rfl rfl (s_callX _ rfl cl_Psnapshot_reader_number (.cons rfl (Wk.refl _) (.cons rfl (Wk.refl _) (.cons rfl (Wk.refl _) .nil))) (by exact (pf1 _ _ _)) (specX_inl (lg_Psnapshot_reader_number_s1 _ _ _ _ _ hr_2))) (hX _ ⟨_, rfl, rfl⟩)
  ·
   refine r_w rfl rfl rfl (s_call _ rfl cl_Psnapshot_reader_number (.cons rfl (Wk.refl _) (.cons rfl (Wk.refl _) (.cons rfl (Wk.refl _) .nil))) (by exact (pf1 _ _ _)) (specX_inr (lg_Psnapshot_reader_number_s1 _ _ _ _ _ hr_2))) ?_
   rintro _ _ ⟨_, ⟨rfl, rfl⟩, rfl⟩
   refine r_st ((.cell b_o0 (enc_S_snapshot_reader r_2.2)) :: _) rfl ?_
   refine r_d rfl rfl rfl (s_assign rfl rfl) ?_
   refine r_end ?_
   refine g_seq ?_
   refine g_run (by kernel_rfl) [(0, .d), (1, .d), (2, .w), (3, .d), (4, .w)] rfl ?_
   refine r_d rfl rfl rfl (s_move rfl rfl) ?_
   refine r_d rfl rfl rfl (s_move rfl rfl) ?_
   rcases bindXS hr with ⟨c_r_3, hr_3, rfl⟩ | ⟨r_3, hr_3, hr⟩
   ·
    refine r_die rfl rfl (s_callX _ rfl cl_Psnapshot_reader_atom (.cons rfl (Wk.refl _) .nil) (by exact (pf0 _)) (specX_inl (lg_Psnapshot_reader_atom_s1 fuel _ _ _ hr_3))) (hX _ ⟨_, rfl, rfl⟩)
   ·
    refine r_w rfl rfl rfl (s_call _ rfl cl_Psnapshot_reader_atom (.cons rfl (Wk.refl _) .nil) (by exact (pf0 _)) (specX_inr (lg_Psnapshot_reader_atom_s1 fuel _ _ _ hr_3))) ?_
    rintro _ _ ⟨_, ⟨rfl, rfl⟩, rfl⟩
    refine r_st ((.cell b_o0 (enc_S_snapshot_reader r_3.2)) :: _) rfl ?_
    refine r_d rfl rfl rfl (s_build rfl bt_api_Item (.cons rfl (Wk.refl _) (.cons rfl (Wk.refl _) .nil)) (.cons rfl rfl rfl (.cons rfl (sz_encA _) rfl (.nil _)))) ?_
    refine r_w01 rfl rfl rfl (t_store0 _ rfl rfl rfl (Wk.refl _) (pf1 _ _ _) (by exact ty_api_Item) (by first | rfl | simp [sz, szs, szs_fsT, sz_encA]) (by first | rfl | simp [sz, szs, szs_fsT, sz_encA]) rfl) ?_
    refine r_end ?_
    refine g_freeze 2 b2_0 rfl (pf0 _) ?_
    obtain rfl := Option.some.inj hr
    refine g_ret Tryz.func81 _ (.cons (resPtr rfl (by exact ty_api_Item) (by first | rfl | simp [sz, szs, szs_fsT, sz_encA]) (Wk.refl _)) .nil) ?_
    exact ⟨_, rfl, rfl, rfl⟩

noncomputable def lf_snapshot_take_s7_L0 (k : ((List (Int × At))) → (S_snapshot_reader) → Option (Int ⊕ ((List (Int × At)) × S_snapshot_reader))) (fuel : Nat) : Nat → (List (Int × At)) → S_snapshot_reader → Option (Int ⊕ ((List (Int × At)) × S_snapshot_reader))
  | 0, out_5, r_7 =>
  (k out_5 r_7)
  | rest + 1, out_5, r_7 =>
  (bindX (lf_Psnapshot_reader_item_s1 fuel r_7) fun r_11 =>
  ((appO 48 out_5 [r_11.1]).bind fun l_12 =>
  (lf_snapshot_take_s7_L0 k fuel rest l_12 r_11.2)))
noncomputable def lf_snapshot_take_s7 (fuel : Nat) (most_a1 : Int) (c_0 : S_snapshot_reader) : Option (Int ⊕ ((List (Int × At)) × S_snapshot_reader)) :=
  (bindX (lf_Psnapshot_reader_number_s1 0 most_a1 c_0) fun r_3 =>
  (lf_snapshot_take_s7_L0 (fun out_9 r_10 =>
  some (.inr (out_9, r_10))) fuel (r_3.1 - 0 : Int).toNat [] r_3.2))

set_option maxHeartbeats 1000000 in
theorem lg_snapshot_take_s7 (fuel : Nat) (most_a1 : Int) (c_0 : S_snapshot_reader) (b_o0 : Nat) (res : Int ⊕ ((List (Int × At)) × S_snapshot_reader)) (hr : lf_snapshot_take_s7 fuel most_a1 c_0 = some res) : SpecX Tryz.prog 80 [.ref b_o0 0 [], .int .i64 most_a1, .clo (.func 81) [.ref b_o0 0 []] []] [.cell b_o0 (enc_S_snapshot_reader c_0)] (fun d σ => ∃ r : (List (Int × At)) × S_snapshot_reader, res = .inr r ∧ d = .lst (r.1.map encIt) ∧ σ = [.cell b_o0 (enc_S_snapshot_reader r.2)]) (fun d => ∃ c, res = .inl c ∧ d = .ifc 191 (.agg [.int .i64 c])) := by
  unfold lf_snapshot_take_s7 at hr
  refine spec_envX [(0, .ref b_o0 0 []), (1, .int .i64 most_a1), (2, .clo (.func 81) [.ref b_o0 0 []] [])] Tryz.func80 rfl rfl fun K hK hX => ?_
  refine g_seq ?_
  refine g_run (by kernel_rfl) [(0, .w)] rfl ?_
  refine r_w rfl rfl rfl (s_nilOwn 109 3 (.inl rfl)) ?_
  rintro _ _ ⟨u6_0, rfl, rfl⟩
  refine r_end ?_
  refine g_seq ?_
  refine g_run (by kernel_rfl) [(0, .w)] rfl ?_
  refine r_w rfl rfl rfl (s_nilOwn 109 3 (.inl rfl)) ?_
  rintro _ _ ⟨u7_1, rfl, rfl⟩
  refine r_end ?_
  refine g_seq ?_
  refine g_seq ?_
  refine g_run (by kernel_rfl) [(0, .d), (1, .d), (2, .w), (3, .d)] rfl ?_
  refine r_d rfl rfl rfl (s_move rfl rfl) ?_
  refine r_d rfl rfl rfl (s_move rfl rfl) ?_
  rcases bindXS hr with ⟨c_r_3, hr_3, rfl⟩ | ⟨r_3, hr_3, hr⟩
  ·
   refine r_die rfl rfl (s_callX _ rfl cl_Psnapshot_reader_number (.cons rfl (Wk.refl _) (.cons rfl (Wk.refl _) (.cons rfl (Wk.refl _) .nil))) (by exact (pf2 _ _ _ _)) (specX_inl (lg_Psnapshot_reader_number_s1 _ _ _ _ _ hr_3))) (hX _ ⟨_, rfl, rfl⟩)
  ·
   refine r_w rfl rfl rfl (s_call _ rfl cl_Psnapshot_reader_number (.cons rfl (Wk.refl _) (.cons rfl (Wk.refl _) (.cons rfl (Wk.refl _) .nil))) (by exact (pf2 _ _ _ _)) (specX_inr (lg_Psnapshot_reader_number_s1 _ _ _ _ _ hr_3))) ?_
   rintro _ _ ⟨_, ⟨rfl, rfl⟩, rfl⟩
   refine r_st ((.cell b_o0 (enc_S_snapshot_reader r_3.2)) :: _) rfl ?_
   refine r_d rfl rfl rfl (s_move rfl rfl) ?_
   refine r_end ?_
   obtain ⟨kk0, hkk0, hr⟩ := exK (fun k => lf_snapshot_take_s7_L0 k fuel (r_3.1 - 0 : Int).toNat [] r_3.2) hr
   refine g_int 10 rfl fun hla0 => ?_
   refine g_blockJ (fun env σ => ∃ (out_9 : (List (Int × At))) (r_10 : S_snapshot_reader) (u_8 : Value), env = [(7, .own u_8 (out_9.map encIt))] ∧ σ = [.row u_8 out_9.length 109 3, .cell b_o0 (enc_S_snapshot_reader r_10)] ∧ kk0 out_9 r_10 = some res) ?_ (fun HK0 => ?_)
   ·
    rintro _ _ ⟨out_9, r_10, u_8, rfl, rfl, hr⟩
    rw [hkk0] at hr
    refine g_seq ?_
    refine g_run (by kernel_rfl) [(0, .d), (1, .d)] rfl ?_
    refine r_d rfl rfl rfl (s_move rfl rfl) ?_
    refine r_d rfl rfl rfl (s_assign rfl rfl) ?_
    refine r_end ?_
    refine g_perm [_] _ (pf1 _ _ _) ?_
    obtain rfl := Option.some.inj hr
    refine g_ret Tryz.func80 _ (.cons (resTmp rfl (Wk.own _ _)) .nil) ?_
    exact ⟨_, rfl, rfl, rfl⟩
   ·
    refine g_sub [(2, .clo (.func 81) [.ref b_o0 0 []] []), (10, .int .i64 r_3.1), (7, .own u7_1 ([].map encIt)), (11, .int .i64 0)] (Sub.cons' rfl (Sub.cons' rfl (Sub.cons' rfl (Sub.cons' rfl (Sub.nil _))))) ?_
    refine g_perm [_, _] _ ((pf1 _ _ _).trans (pf1 _ _ _)) ?_
    refine g_loop (fun n env σ => ∃ (out_5 : (List (Int × At))) (t11_6 : Int) (r_7 : S_snapshot_reader) (u_4 : Value) (m0 : Nat), (m0 = n) ∧ (env = [(2, .clo (.func 81) [.ref b_o0 0 []] []), (10, .int .i64 r_3.1), (7, .own u_4 (out_5.map encIt)), (11, .int .i64 t11_6)]) ∧ (σ = [.cell b_o0 (enc_S_snapshot_reader r_7), .row u_4 out_5.length 109 3]) ∧ (m0 = (r_3.1 - t11_6 : Int).toNat) ∧ (lf_snapshot_take_s7_L0 kk0 fuel m0 out_5 r_7 = some res)) _ ⟨[], 0, r_3.2, u7_1, _, rfl, rfl, rfl, rfl, hr⟩ ?_
    rintro n _ _ ⟨out_5, t11_6, r_7, u_4, m0, rfl, rfl, rfl, hi0, hr⟩ IH0
    refine g_int 11 rfl fun hb0 => ?_
    rcases cntStep t11_6 r_3.1 m0 hi0 with ⟨hm0, ht0⟩ | ⟨m0', hm0, ht0, hi0', hlt0⟩
    ·
     rw [hm0, lf_snapshot_take_s7_L0] at hr
     refine g_seq ?_
     refine g_run (by kernel_rfl) [(0, .d)] rfl ?_
     refine r_d rfl rfl rfl (s_cmp rfl rfl rfl rfl) ?_
     refine r_end ?_
     refine g_seq ?_
     refine g_known 12 false rfl ht0 ?_
     refine g_condF rfl ?_
     refine g_exit rfl ?_
     refine g_sub [(7, .own u_4 (out_5.map encIt))] (Sub.cons' rfl (Sub.nil _)) ?_
     refine g_perm [_, _] _ ((pf0 _).trans (pf1 _ _ _)) ?_
     exact HK0 _ _ ⟨out_5, r_7, u_4, rfl, rfl, hr⟩
    ·
     rw [hm0, lf_snapshot_take_s7_L0] at hr
     refine g_seq ?_
     refine g_run (by kernel_rfl) [(0, .d)] rfl ?_
     refine r_d rfl rfl rfl (s_cmp rfl rfl rfl rfl) ?_
     refine r_end ?_
     refine g_seq ?_
     refine g_int 10 rfl fun hbN10 => ?_
     refine g_known 12 true rfl ht0 ?_
     refine g_condT rfl ?_
     refine g_skip ?_
     refine g_seq ?_
     refine g_block ?_
     refine g_run (by kernel_rfl) [(0, .d), (1, .d), (2, .w), (3, .d), (4, .w), (5, .d)] rfl ?_
     refine r_d rfl rfl rfl (s_move rfl rfl) ?_
     refine r_d rfl rfl rfl (s_move rfl rfl) ?_
     rcases bindXS hr with ⟨c_r_11, hr_11, rfl⟩ | ⟨r_11, hr_11, hr⟩
     ·
      refine r_die rfl rfl (s_callVX _ rfl rfl cl_Psnapshot_reader_item .nil rfl (by exact (pf0 _)) (specX_inl (lg_Psnapshot_reader_item_s1 fuel _ _ _ hr_11))) (hX _ ⟨_, rfl, rfl⟩)
     ·
      refine r_w rfl rfl rfl (s_callV _ rfl rfl cl_Psnapshot_reader_item .nil rfl (by exact (pf0 _)) (specX_inr (lg_Psnapshot_reader_item_s1 fuel _ _ _ hr_11))) ?_
      rintro _ _ ⟨_, ⟨rfl, rfl⟩, rfl⟩
      refine r_st ((.cell b_o0 (enc_S_snapshot_reader r_11.2)) :: _) rfl ?_
      refine r_d rfl rfl rfl (m_lit (f := encIt) [.tmp 15] [r_11.1] rfl el_L_api_Item rfl rfl (by decide) (by decide) (.cons rfl (Wk.refl _) .nil) sz_encIt (fun _ => rfl)) ?_
      obtain ⟨l_12, hl_12, hr⟩ := bindS hr
      refine r_w rfl rfl rfl (m_appOwn (f := encIt) out_5 [r_11.1] rfl el_L_api_Item rfl rfl (asl rfl) (pf1 _ _ _) rfl sz_encIt hl_12) ?_
      rintro _ _ ⟨u17_12, rfl, rfl⟩
      refine r_d rfl rfl rfl (s_assign rfl rfl) ?_
      refine r_end ?_
      refine g_inBlock ?_
      refine g_run (by kernel_rfl) [(0, .d), (1, .d)] rfl ?_
      refine r_d rfl rfl rfl (s_ar (r := t11_6 + 1) rfl rfl rfl rfl (by omega)) ?_
      refine r_d rfl rfl rfl (s_move rfl rfl) ?_
      refine r_end ?_
      refine g_sub [(2, .clo (.func 81) [.ref b_o0 0 []] []), (10, .int .i64 r_3.1), (7, .own u17_12 (l_12.map encIt)), (11, .int .i64 (t11_6 + 1))] (Sub.cons' rfl (Sub.cons' rfl (Sub.cons' rfl (Sub.cons' rfl (Sub.nil _))))) ?_
      refine g_perm [_, _] _ ((pf0 _).trans (pf1 _ _ _)) ?_
      exact IH0 _ _ _ (by omega) ⟨l_12, (t11_6 + 1), r_11.2, u17_12, _, rfl, rfl, rfl, hi0', hr⟩

noncomputable def lf_snapshot_TakeConfig_1_1_s1 (fuel : Nat) (c_0 : S_snapshot_reader) : Option (Int ⊕ ((Int × T) × S_snapshot_reader)) :=
  (bindX (lf_Psnapshot_reader_number_s1 0 1048576 c_0) fun r_2 =>
  (bindX (lf_Psnapshot_reader_term_s1 fuel 0 r_2.2) fun r_3 =>
  some (.inr ((r_2.1, r_3.1), r_3.2))))

set_option maxHeartbeats 1000000 in
theorem lg_snapshot_TakeConfig_1_1_s1 (fuel : Nat) (c_0 : S_snapshot_reader) (b_o0 : Nat) (res : Int ⊕ ((Int × T) × S_snapshot_reader)) (hr : lf_snapshot_TakeConfig_1_1_s1 fuel c_0 = some res) : SpecX Tryz.prog 83 [.ptr (.ref b_o0 0 [])] [.cell b_o0 (enc_S_snapshot_reader c_0)] (fun d σ => ∃ r : (Int × T) × S_snapshot_reader, res = .inr r ∧ d = encP r.1 ∧ σ = [.cell b_o0 (enc_S_snapshot_reader r.2)]) (fun d => ∃ c, res = .inl c ∧ d = .ifc 191 (.agg [.int .i64 c])) := by
  unfold lf_snapshot_TakeConfig_1_1_s1 at hr
  refine spec_envX [(0, .ptr (.ref b_o0 0 []))] Tryz.func83 rfl rfl fun K hK hX => ?_
  refine g_seq ?_
  refine g_run (by kernel_rfl) [(0, .w)] rfl ?_
  refine r_w rfl rfl rfl (s_alloc rfl zv_api_Bind) ?_
  rintro _ _ ⟨b1_0, rfl, rfl⟩
  refine r_end ?_
  refine g_seq ?_
  refine g_run (by kernel_rfl) [(0, .d), (1, .w), (2, .d)] rfl ?_
  refine r_d rfl rfl rfl (s_load rfl rfl (by exact ty_P_snapshot_reader) rfl) ?_
  rcases bindXS hr with ⟨c_r_2, hr_2, rfl⟩ | ⟨r_2, hr_2, hr⟩
  ·
   refine r_die rfl rfl (s_callX _ rfl cl_Psnapshot_reader_number (.cons rfl (Wk.refl _) (.cons rfl (Wk.refl _) (.cons rfl (Wk.refl _) .nil))) (by exact (pf1 _ _ _)) (specX_inl (lg_Psnapshot_reader_number_s1 _ _ _ _ _ hr_2))) (hX _ ⟨_, rfl, rfl⟩)
  ·
   refine r_w rfl rfl rfl (s_call _ rfl cl_Psnapshot_reader_number (.cons rfl (Wk.refl _) (.cons rfl (Wk.refl _) (.cons rfl (Wk.refl _) .nil))) (by exact (pf1 _ _ _)) (specX_inr (lg_Psnapshot_reader_number_s1 _ _ _ _ _ hr_2))) ?_
   rintro _ _ ⟨_, ⟨rfl, rfl⟩, rfl⟩
   refine r_st ((.cell b_o0 (enc_S_snapshot_reader r_2.2)) :: _) rfl ?_
   refine r_d rfl rfl rfl (s_assign rfl rfl) ?_
   refine r_end ?_
   refine g_seq ?_
   refine g_run (by kernel_rfl) [(0, .d), (1, .d), (2, .w), (3, .d), (4, .w)] rfl ?_
   refine r_d rfl rfl rfl (s_move rfl rfl) ?_
   refine r_d rfl rfl rfl (s_load rfl rfl (by exact ty_P_snapshot_reader) rfl) ?_
   rcases bindXS hr with ⟨c_r_3, hr_3, rfl⟩ | ⟨r_3, hr_3, hr⟩
   ·
    refine r_die rfl rfl (s_callX _ rfl cl_Psnapshot_reader_term (.cons rfl (Wk.refl _) (.cons rfl (Wk.refl _) .nil)) (by exact (pf0 _)) (specX_inl (lg_Psnapshot_reader_term_s1 fuel _ _ _ _ hr_3))) (hX _ ⟨_, rfl, rfl⟩)
   ·
    refine r_w rfl rfl rfl (s_call _ rfl cl_Psnapshot_reader_term (.cons rfl (Wk.refl _) (.cons rfl (Wk.refl _) .nil)) (by exact (pf0 _)) (specX_inr (lg_Psnapshot_reader_term_s1 fuel _ _ _ _ hr_3))) ?_
    rintro _ _ ⟨_, ⟨rfl, rfl⟩, rfl⟩
    refine r_st ((.cell b_o0 (enc_S_snapshot_reader r_3.2)) :: _) rfl ?_
    refine r_d rfl rfl rfl (s_build rfl bt_api_Bind (.cons rfl (Wk.refl _) (.cons rfl (Wk.refl _) .nil)) (.cons rfl rfl rfl (.cons rfl (sz_encT _) rfl (.nil _)))) ?_
    refine r_w01 rfl rfl rfl (t_store0 _ rfl rfl rfl (Wk.refl _) (pf1 _ _ _) (by exact ty_api_Bind) (by first | rfl | simp [sz, szs, szs_fsT, sz_encT]) (by first | rfl | simp [sz, szs, szs_fsT, sz_encT]) rfl) ?_
    refine r_end ?_
    refine g_freeze 1 b1_0 rfl (pf0 _) ?_
    obtain rfl := Option.some.inj hr
    refine g_ret Tryz.func83 _ (.cons (resPtr rfl (by exact ty_api_Bind) (by first | rfl | simp [sz, szs, szs_fsT, sz_encT]) (Wk.refl _)) .nil) ?_
    exact ⟨_, rfl, rfl, rfl⟩

noncomputable def lf_snapshot_take_s8_L0 (k : ((List (Int × T))) → (S_snapshot_reader) → Option (Int ⊕ ((List (Int × T)) × S_snapshot_reader))) (fuel : Nat) : Nat → (List (Int × T)) → S_snapshot_reader → Option (Int ⊕ ((List (Int × T)) × S_snapshot_reader))
  | 0, out_5, r_7 =>
  (k out_5 r_7)
  | rest + 1, out_5, r_7 =>
  (bindX (lf_snapshot_TakeConfig_1_1_s1 fuel r_7) fun r_11 =>
  ((appO 64 out_5 [r_11.1]).bind fun l_12 =>
  (lf_snapshot_take_s8_L0 k fuel rest l_12 r_11.2)))
noncomputable def lf_snapshot_take_s8 (fuel : Nat) (most_a1 : Int) (c_0 : S_snapshot_reader) : Option (Int ⊕ ((List (Int × T)) × S_snapshot_reader)) :=
  (bindX (lf_Psnapshot_reader_number_s1 0 most_a1 c_0) fun r_3 =>
  (lf_snapshot_take_s8_L0 (fun out_9 r_10 =>
  some (.inr (out_9, r_10))) fuel (r_3.1 - 0 : Int).toNat [] r_3.2))

set_option maxHeartbeats 1000000 in
theorem lg_snapshot_take_s8 (fuel : Nat) (most_a1 : Int) (c_0 : S_snapshot_reader) (b_o0 : Nat) (res : Int ⊕ ((List (Int × T)) × S_snapshot_reader)) (hr : lf_snapshot_take_s8 fuel most_a1 c_0 = some res) : SpecX Tryz.prog 82 [.ref b_o0 0 [], .int .i64 most_a1, .clo (.func 83) [] [.ptr (.ref b_o0 0 [])]] [.cell b_o0 (enc_S_snapshot_reader c_0)] (fun d σ => ∃ r : (List (Int × T)) × S_snapshot_reader, res = .inr r ∧ d = .lst (r.1.map encP) ∧ σ = [.cell b_o0 (enc_S_snapshot_reader r.2)]) (fun d => ∃ c, res = .inl c ∧ d = .ifc 191 (.agg [.int .i64 c])) := by
  unfold lf_snapshot_take_s8 at hr
  refine spec_envX [(0, .ref b_o0 0 []), (1, .int .i64 most_a1), (2, .clo (.func 83) [] [.ptr (.ref b_o0 0 [])])] Tryz.func82 rfl rfl fun K hK hX => ?_
  refine g_seq ?_
  refine g_run (by kernel_rfl) [(0, .w)] rfl ?_
  refine r_w rfl rfl rfl (s_nilOwn 116 5 (.inl rfl)) ?_
  rintro _ _ ⟨u6_0, rfl, rfl⟩
  refine r_end ?_
  refine g_seq ?_
  refine g_run (by kernel_rfl) [(0, .w)] rfl ?_
  refine r_w rfl rfl rfl (s_nilOwn 116 5 (.inl rfl)) ?_
  rintro _ _ ⟨u7_1, rfl, rfl⟩
  refine r_end ?_
  refine g_seq ?_
  refine g_seq ?_
  refine g_run (by kernel_rfl) [(0, .d), (1, .d), (2, .w), (3, .d)] rfl ?_
  refine r_d rfl rfl rfl (s_move rfl rfl) ?_
  refine r_d rfl rfl rfl (s_move rfl rfl) ?_
  rcases bindXS hr with ⟨c_r_3, hr_3, rfl⟩ | ⟨r_3, hr_3, hr⟩
  ·
   refine r_die rfl rfl (s_callX _ rfl cl_Psnapshot_reader_number (.cons rfl (Wk.refl _) (.cons rfl (Wk.refl _) (.cons rfl (Wk.refl _) .nil))) (by exact (pf2 _ _ _ _)) (specX_inl (lg_Psnapshot_reader_number_s1 _ _ _ _ _ hr_3))) (hX _ ⟨_, rfl, rfl⟩)
  ·
   refine r_w rfl rfl rfl (s_call _ rfl cl_Psnapshot_reader_number (.cons rfl (Wk.refl _) (.cons rfl (Wk.refl _) (.cons rfl (Wk.refl _) .nil))) (by exact (pf2 _ _ _ _)) (specX_inr (lg_Psnapshot_reader_number_s1 _ _ _ _ _ hr_3))) ?_
   rintro _ _ ⟨_, ⟨rfl, rfl⟩, rfl⟩
   refine r_st ((.cell b_o0 (enc_S_snapshot_reader r_3.2)) :: _) rfl ?_
   refine r_d rfl rfl rfl (s_move rfl rfl) ?_
   refine r_end ?_
   obtain ⟨kk0, hkk0, hr⟩ := exK (fun k => lf_snapshot_take_s8_L0 k fuel (r_3.1 - 0 : Int).toNat [] r_3.2) hr
   refine g_int 10 rfl fun hla0 => ?_
   refine g_blockJ (fun env σ => ∃ (out_9 : (List (Int × T))) (r_10 : S_snapshot_reader) (u_8 : Value), env = [(7, .own u_8 (out_9.map encP))] ∧ σ = [.row u_8 out_9.length 116 5, .cell b_o0 (enc_S_snapshot_reader r_10)] ∧ kk0 out_9 r_10 = some res) ?_ (fun HK0 => ?_)
   ·
    rintro _ _ ⟨out_9, r_10, u_8, rfl, rfl, hr⟩
    rw [hkk0] at hr
    refine g_seq ?_
    refine g_run (by kernel_rfl) [(0, .d), (1, .d)] rfl ?_
    refine r_d rfl rfl rfl (s_move rfl rfl) ?_
    refine r_d rfl rfl rfl (s_assign rfl rfl) ?_
    refine r_end ?_
    refine g_perm [_] _ (pf1 _ _ _) ?_
    obtain rfl := Option.some.inj hr
    refine g_ret Tryz.func82 _ (.cons (resTmp rfl (Wk.own _ _)) .nil) ?_
    exact ⟨_, rfl, rfl, rfl⟩
   ·
    refine g_sub [(2, .clo (.func 83) [] [.ptr (.ref b_o0 0 [])]), (10, .int .i64 r_3.1), (7, .own u7_1 ([].map encP)), (11, .int .i64 0)] (Sub.cons' rfl (Sub.cons' rfl (Sub.cons' rfl (Sub.cons' rfl (Sub.nil _))))) ?_
    refine g_perm [_, _] _ ((pf1 _ _ _).trans (pf1 _ _ _)) ?_
    refine g_loop (fun n env σ => ∃ (out_5 : (List (Int × T))) (t11_6 : Int) (r_7 : S_snapshot_reader) (u_4 : Value) (m0 : Nat), (m0 = n) ∧ (env = [(2, .clo (.func 83) [] [.ptr (.ref b_o0 0 [])]), (10, .int .i64 r_3.1), (7, .own u_4 (out_5.map encP)), (11, .int .i64 t11_6)]) ∧ (σ = [.cell b_o0 (enc_S_snapshot_reader r_7), .row u_4 out_5.length 116 5]) ∧ (m0 = (r_3.1 - t11_6 : Int).toNat) ∧ (lf_snapshot_take_s8_L0 kk0 fuel m0 out_5 r_7 = some res)) _ ⟨[], 0, r_3.2, u7_1, _, rfl, rfl, rfl, rfl, hr⟩ ?_
    rintro n _ _ ⟨out_5, t11_6, r_7, u_4, m0, rfl, rfl, rfl, hi0, hr⟩ IH0
    refine g_int 11 rfl fun hb0 => ?_
    rcases cntStep t11_6 r_3.1 m0 hi0 with ⟨hm0, ht0⟩ | ⟨m0', hm0, ht0, hi0', hlt0⟩
    ·
     rw [hm0, lf_snapshot_take_s8_L0] at hr
     refine g_seq ?_
     refine g_run (by kernel_rfl) [(0, .d)] rfl ?_
     refine r_d rfl rfl rfl (s_cmp rfl rfl rfl rfl) ?_
     refine r_end ?_
     refine g_seq ?_
     refine g_known 12 false rfl ht0 ?_
     refine g_condF rfl ?_
     refine g_exit rfl ?_
     refine g_sub [(7, .own u_4 (out_5.map encP))] (Sub.cons' rfl (Sub.nil _)) ?_
     refine g_perm [_, _] _ ((pf0 _).trans (pf1 _ _ _)) ?_
     exact HK0 _ _ ⟨out_5, r_7, u_4, rfl, rfl, hr⟩
    ·
     rw [hm0, lf_snapshot_take_s8_L0] at hr
     refine g_seq ?_
     refine g_run (by kernel_rfl) [(0, .d)] rfl ?_
     refine r_d rfl rfl rfl (s_cmp rfl rfl rfl rfl) ?_
     refine r_end ?_
     refine g_seq ?_
     refine g_int 10 rfl fun hbN10 => ?_
     refine g_known 12 true rfl ht0 ?_
     refine g_condT rfl ?_
     refine g_skip ?_
     refine g_seq ?_
     refine g_block ?_
     refine g_run (by kernel_rfl) [(0, .d), (1, .d), (2, .w), (3, .d), (4, .w), (5, .d)] rfl ?_
     refine r_d rfl rfl rfl (s_move rfl rfl) ?_
     refine r_d rfl rfl rfl (s_move rfl rfl) ?_
     rcases bindXS hr with ⟨c_r_11, hr_11, rfl⟩ | ⟨r_11, hr_11, hr⟩
     ·
      refine r_die rfl rfl (s_callVX _ rfl rfl cl_snapshot_TakeConfig_1_1 .nil rfl (by exact (pf0 _)) (specX_inl (lg_snapshot_TakeConfig_1_1_s1 fuel _ _ _ hr_11))) (hX _ ⟨_, rfl, rfl⟩)
     ·
      refine r_w rfl rfl rfl (s_callV _ rfl rfl cl_snapshot_TakeConfig_1_1 .nil rfl (by exact (pf0 _)) (specX_inr (lg_snapshot_TakeConfig_1_1_s1 fuel _ _ _ hr_11))) ?_
      rintro _ _ ⟨_, ⟨rfl, rfl⟩, rfl⟩
      refine r_st ((.cell b_o0 (enc_S_snapshot_reader r_11.2)) :: _) rfl ?_
      refine r_d rfl rfl rfl (m_lit (f := encP) [.tmp 15] [r_11.1] rfl el_L_api_Bind rfl rfl (by decide) (by decide) (.cons rfl (Wk.refl _) .nil) sz_encP (fun _ => rfl)) ?_
      obtain ⟨l_12, hl_12, hr⟩ := bindS hr
      refine r_w rfl rfl rfl (m_appOwn (f := encP) out_5 [r_11.1] rfl el_L_api_Bind rfl rfl (asl rfl) (pf1 _ _ _) rfl sz_encP hl_12) ?_
      rintro _ _ ⟨u17_12, rfl, rfl⟩
      refine r_d rfl rfl rfl (s_assign rfl rfl) ?_
      refine r_end ?_
      refine g_inBlock ?_
      refine g_run (by kernel_rfl) [(0, .d), (1, .d)] rfl ?_
      refine r_d rfl rfl rfl (s_ar (r := t11_6 + 1) rfl rfl rfl rfl (by omega)) ?_
      refine r_d rfl rfl rfl (s_move rfl rfl) ?_
      refine r_end ?_
      refine g_sub [(2, .clo (.func 83) [] [.ptr (.ref b_o0 0 [])]), (10, .int .i64 r_3.1), (7, .own u17_12 (l_12.map encP)), (11, .int .i64 (t11_6 + 1))] (Sub.cons' rfl (Sub.cons' rfl (Sub.cons' rfl (Sub.cons' rfl (Sub.nil _))))) ?_
      refine g_perm [_, _] _ ((pf0 _).trans (pf1 _ _ _)) ?_
      exact IH0 _ _ _ (by omega) ⟨l_12, (t11_6 + 1), r_11.2, u17_12, _, rfl, rfl, rfl, hi0', hr⟩

noncomputable def lf_Psnapshot_reader_numbers_1_s1 (t1_a1 : Int) (c_0 : S_snapshot_reader) : Option (Int ⊕ (Int × S_snapshot_reader)) :=
  (bindX (lf_Psnapshot_reader_number_s1 0 t1_a1 c_0) fun r_1 =>
  some (.inr (r_1.1, r_1.2)))

set_option maxHeartbeats 1000000 in
theorem lg_Psnapshot_reader_numbers_1_s1 (t1_a1 : Int) (c_0 : S_snapshot_reader) (b_o0 : Nat) (res : Int ⊕ (Int × S_snapshot_reader)) (hr : lf_Psnapshot_reader_numbers_1_s1 t1_a1 c_0 = some res) : SpecX Tryz.prog 163 [.ptr (.ref b_o0 0 []), .ptr (.int .i64 t1_a1)] [.cell b_o0 (enc_S_snapshot_reader c_0)] (fun d σ => ∃ r : Int × S_snapshot_reader, res = .inr r ∧ d = .int .i64 r.1 ∧ σ = [.cell b_o0 (enc_S_snapshot_reader r.2)]) (fun d => ∃ c, res = .inl c ∧ d = .ifc 191 (.agg [.int .i64 c])) := by
  unfold lf_Psnapshot_reader_numbers_1_s1 at hr
  refine spec_envX [(0, .ptr (.ref b_o0 0 [])), (1, .ptr (.int .i64 t1_a1))] Tryz.func163 rfl rfl fun K hK hX => ?_
  refine g_seq ?_
  refine g_run (by kernel_rfl) [(0, .d)] rfl ?_
  refine r_d rfl rfl rfl (s_assign rfl rfl) ?_
  refine r_end ?_
  refine g_seq ?_
  refine g_run (by kernel_rfl) [(0, .d), (1, .d), (2, .w), (3, .d)] rfl ?_
  refine r_d rfl rfl rfl (s_load rfl rfl (by exact ty_P_snapshot_reader) rfl) ?_
  refine r_d rfl rfl rfl (s_load rfl rfl (by exact ty_int) rfl) ?_
  rcases bindXS hr with ⟨c_r_1, hr_1, rfl⟩ | ⟨r_1, hr_1, hr⟩
  ·
   refine r_die rfl rfl (s_callX _ rfl cl_Psnapshot_reader_number (.cons rfl (Wk.refl _) (.cons rfl (Wk.refl _) (.cons rfl (Wk.refl _) .nil))) (by exact (pf0 _)) (specX_inl (lg_Psnapshot_reader_number_s1 _ _ _ _ _ hr_1))) (hX _ ⟨_, rfl, rfl⟩)
  ·
   refine r_w rfl rfl rfl (s_call _ rfl cl_Psnapshot_reader_number (.cons rfl (Wk.refl _) (.cons rfl (Wk.refl _) (.cons rfl (Wk.refl _) .nil))) (by exact (pf0 _)) (specX_inr (lg_Psnapshot_reader_number_s1 _ _ _ _ _ hr_1))) ?_
   rintro _ _ ⟨_, ⟨rfl, rfl⟩, rfl⟩
   refine r_st ((.cell b_o0 (enc_S_snapshot_reader r_1.2)) :: _) rfl ?_
   refine r_d rfl rfl rfl (s_assign rfl rfl) ?_
   refine r_end ?_
   obtain rfl := Option.some.inj hr
   refine g_ret Tryz.func163 _ (.cons (resTmp rfl (Wk.refl _)) .nil) ?_
   exact ⟨_, rfl, rfl, rfl⟩

noncomputable def lf_snapshot_take_s10_L0 (k : ((List Int)) → (S_snapshot_reader) → Option (Int ⊕ ((List Int) × S_snapshot_reader))) (one_a2_c1 : Int) : Nat → (List Int) → S_snapshot_reader → Option (Int ⊕ ((List Int) × S_snapshot_reader))
  | 0, out_5, r_7 =>
  (k out_5 r_7)
  | rest + 1, out_5, r_7 =>
  (bindX (lf_Psnapshot_reader_numbers_1_s1 one_a2_c1 r_7) fun r_11 =>
  ((appO 8 out_5 [r_11.1]).bind fun l_12 =>
  (lf_snapshot_take_s10_L0 k one_a2_c1 rest l_12 r_11.2)))
noncomputable def lf_snapshot_take_s10 (most_a1 : Int) (one_a2_c1 : Int) (c_0 : S_snapshot_reader) : Option (Int ⊕ ((List Int) × S_snapshot_reader)) :=
  (bindX (lf_Psnapshot_reader_number_s1 0 most_a1 c_0) fun r_3 =>
  (lf_snapshot_take_s10_L0 (fun out_9 r_10 =>
  some (.inr (out_9, r_10))) one_a2_c1 (r_3.1 - 0 : Int).toNat [] r_3.2))

set_option maxHeartbeats 1000000 in
theorem lg_snapshot_take_s10 (most_a1 : Int) (one_a2_c1 : Int) (c_0 : S_snapshot_reader) (b_o0 : Nat) (res : Int ⊕ ((List Int) × S_snapshot_reader)) (hr : lf_snapshot_take_s10 most_a1 one_a2_c1 c_0 = some res) : SpecX Tryz.prog 162 [.ref b_o0 0 [], .int .i64 most_a1, .clo (.func 163) [] [.ptr (.ref b_o0 0 []), .ptr (.int .i64 one_a2_c1)]] [.cell b_o0 (enc_S_snapshot_reader c_0)] (fun d σ => ∃ r : (List Int) × S_snapshot_reader, res = .inr r ∧ d = .lst (r.1.map (D.int .i64)) ∧ σ = [.cell b_o0 (enc_S_snapshot_reader r.2)]) (fun d => ∃ c, res = .inl c ∧ d = .ifc 191 (.agg [.int .i64 c])) := by
  unfold lf_snapshot_take_s10 at hr
  refine spec_envX [(0, .ref b_o0 0 []), (1, .int .i64 most_a1), (2, .clo (.func 163) [] [.ptr (.ref b_o0 0 []), .ptr (.int .i64 one_a2_c1)])] Tryz.func162 rfl rfl fun K hK hX => ?_
  refine g_seq ?_
  refine g_run (by kernel_rfl) [(0, .w)] rfl ?_
  refine r_w rfl rfl rfl (s_nilOwn 3 1 (.inl rfl)) ?_
  rintro _ _ ⟨u6_0, rfl, rfl⟩
  refine r_end ?_
  refine g_seq ?_
  refine g_run (by kernel_rfl) [(0, .w)] rfl ?_
  refine r_w rfl rfl rfl (s_nilOwn 3 1 (.inl rfl)) ?_
  rintro _ _ ⟨u7_1, rfl, rfl⟩
  refine r_end ?_
  refine g_seq ?_
  refine g_seq ?_
  refine g_run (by kernel_rfl) [(0, .d), (1, .d), (2, .w), (3, .d)] rfl ?_
  refine r_d rfl rfl rfl (s_move rfl rfl) ?_
  refine r_d rfl rfl rfl (s_move rfl rfl) ?_
  rcases bindXS hr with ⟨c_r_3, hr_3, rfl⟩ | ⟨r_3, hr_3, hr⟩
  ·
   refine r_die rfl rfl (s_callX _ rfl cl_Psnapshot_reader_number (.cons rfl (Wk.refl _) (.cons rfl (Wk.refl _) (.cons rfl (Wk.refl _) .nil))) (by exact (pf2 _ _ _ _)) (specX_inl (lg_Psnapshot_reader_number_s1 _ _ _ _ _ hr_3))) (hX _ ⟨_, rfl, rfl⟩)
  ·
   refine r_w rfl rfl rfl (s_call _ rfl cl_Psnapshot_reader_number (.cons rfl (Wk.refl _) (.cons rfl (Wk.refl _) (.cons rfl (Wk.refl _) .nil))) (by exact (pf2 _ _ _ _)) (specX_inr (lg_Psnapshot_reader_number_s1 _ _ _ _ _ hr_3))) ?_
   rintro _ _ ⟨_, ⟨rfl, rfl⟩, rfl⟩
   refine r_st ((.cell b_o0 (enc_S_snapshot_reader r_3.2)) :: _) rfl ?_
   refine r_d rfl rfl rfl (s_move rfl rfl) ?_
   refine r_end ?_
   obtain ⟨kk0, hkk0, hr⟩ := exK (fun k => lf_snapshot_take_s10_L0 k one_a2_c1 (r_3.1 - 0 : Int).toNat [] r_3.2) hr
   refine g_int 10 rfl fun hla0 => ?_
   refine g_blockJ (fun env σ => ∃ (out_9 : (List Int)) (r_10 : S_snapshot_reader) (u_8 : Value), env = [(7, .own u_8 (out_9.map (D.int .i64)))] ∧ σ = [.row u_8 out_9.length 3 1, .cell b_o0 (enc_S_snapshot_reader r_10)] ∧ kk0 out_9 r_10 = some res) ?_ (fun HK0 => ?_)
   ·
    rintro _ _ ⟨out_9, r_10, u_8, rfl, rfl, hr⟩
    rw [hkk0] at hr
    refine g_seq ?_
    refine g_run (by kernel_rfl) [(0, .d), (1, .d)] rfl ?_
    refine r_d rfl rfl rfl (s_move rfl rfl) ?_
    refine r_d rfl rfl rfl (s_assign rfl rfl) ?_
    refine r_end ?_
    refine g_perm [_] _ (pf1 _ _ _) ?_
    obtain rfl := Option.some.inj hr
    refine g_ret Tryz.func162 _ (.cons (resTmp rfl (Wk.own _ _)) .nil) ?_
    exact ⟨_, rfl, rfl, rfl⟩
   ·
    refine g_sub [(2, .clo (.func 163) [] [.ptr (.ref b_o0 0 []), .ptr (.int .i64 one_a2_c1)]), (10, .int .i64 r_3.1), (7, .own u7_1 ([].map (D.int .i64))), (11, .int .i64 0)] (Sub.cons' rfl (Sub.cons' rfl (Sub.cons' rfl (Sub.cons' rfl (Sub.nil _))))) ?_
    refine g_perm [_, _] _ ((pf1 _ _ _).trans (pf1 _ _ _)) ?_
    refine g_loop (fun n env σ => ∃ (out_5 : (List Int)) (t11_6 : Int) (r_7 : S_snapshot_reader) (u_4 : Value) (m0 : Nat), (m0 = n) ∧ (env = [(2, .clo (.func 163) [] [.ptr (.ref b_o0 0 []), .ptr (.int .i64 one_a2_c1)]), (10, .int .i64 r_3.1), (7, .own u_4 (out_5.map (D.int .i64))), (11, .int .i64 t11_6)]) ∧ (σ = [.cell b_o0 (enc_S_snapshot_reader r_7), .row u_4 out_5.length 3 1]) ∧ (m0 = (r_3.1 - t11_6 : Int).toNat) ∧ (lf_snapshot_take_s10_L0 kk0 one_a2_c1 m0 out_5 r_7 = some res)) _ ⟨[], 0, r_3.2, u7_1, _, rfl, rfl, rfl, rfl, hr⟩ ?_
    rintro n _ _ ⟨out_5, t11_6, r_7, u_4, m0, rfl, rfl, rfl, hi0, hr⟩ IH0
    refine g_int 11 rfl fun hb0 => ?_
    rcases cntStep t11_6 r_3.1 m0 hi0 with ⟨hm0, ht0⟩ | ⟨m0', hm0, ht0, hi0', hlt0⟩
    ·
     rw [hm0, lf_snapshot_take_s10_L0] at hr
     refine g_seq ?_
     refine g_run (by kernel_rfl) [(0, .d)] rfl ?_
     refine r_d rfl rfl rfl (s_cmp rfl rfl rfl rfl) ?_
     refine r_end ?_
     refine g_seq ?_
     refine g_known 12 false rfl ht0 ?_
     refine g_condF rfl ?_
     refine g_exit rfl ?_
     refine g_sub [(7, .own u_4 (out_5.map (D.int .i64)))] (Sub.cons' rfl (Sub.nil _)) ?_
     refine g_perm [_, _] _ ((pf0 _).trans (pf1 _ _ _)) ?_
     exact HK0 _ _ ⟨out_5, r_7, u_4, rfl, rfl, hr⟩
    ·
     rw [hm0, lf_snapshot_take_s10_L0] at hr
     refine g_seq ?_
     refine g_run (by kernel_rfl) [(0, .d)] rfl ?_
     refine r_d rfl rfl rfl (s_cmp rfl rfl rfl rfl) ?_
     refine r_end ?_
     refine g_seq ?_
     refine g_int 10 rfl fun hbN10 => ?_
     refine g_known 12 true rfl ht0 ?_
     refine g_condT rfl ?_
     refine g_skip ?_
     refine g_seq ?_
     refine g_block ?_
     refine g_run (by kernel_rfl) [(0, .d), (1, .d), (2, .w), (3, .d), (4, .w), (5, .d)] rfl ?_
     refine r_d rfl rfl rfl (s_move rfl rfl) ?_
     refine r_d rfl rfl rfl (s_move rfl rfl) ?_
     rcases bindXS hr with ⟨c_r_11, hr_11, rfl⟩ | ⟨r_11, hr_11, hr⟩
     ·
      refine r_die rfl rfl (s_callVX _ rfl rfl cl_Psnapshot_reader_numbers_1 .nil rfl (by exact (pf0 _)) (specX_inl (lg_Psnapshot_reader_numbers_1_s1 _ _ _ _ hr_11))) (hX _ ⟨_, rfl, rfl⟩)
     ·
      refine r_w rfl rfl rfl (s_callV _ rfl rfl cl_Psnapshot_reader_numbers_1 .nil rfl (by exact (pf0 _)) (specX_inr (lg_Psnapshot_reader_numbers_1_s1 _ _ _ _ hr_11))) ?_
      rintro _ _ ⟨_, ⟨rfl, rfl⟩, rfl⟩
      refine r_st ((.cell b_o0 (enc_S_snapshot_reader r_11.2)) :: _) rfl ?_
      refine r_d rfl rfl rfl (m_lit (f := (D.int .i64)) [.tmp 15] [r_11.1] rfl el_L_int rfl rfl (by decide) (by decide) (.cons rfl (Wk.refl _) .nil) (fun _ => rfl) (fun _ => rfl)) ?_
      obtain ⟨l_12, hl_12, hr⟩ := bindS hr
      refine r_w rfl rfl rfl (m_appOwn (f := (D.int .i64)) out_5 [r_11.1] rfl el_L_int rfl rfl (asl rfl) (pf1 _ _ _) rfl (fun _ => rfl) hl_12) ?_
      rintro _ _ ⟨u17_12, rfl, rfl⟩
      refine r_d rfl rfl rfl (s_assign rfl rfl) ?_
      refine r_end ?_
      refine g_inBlock ?_
      refine g_run (by kernel_rfl) [(0, .d), (1, .d)] rfl ?_
      refine r_d rfl rfl rfl (s_ar (r := t11_6 + 1) rfl rfl rfl rfl (by omega)) ?_
      refine r_d rfl rfl rfl (s_move rfl rfl) ?_
      refine r_end ?_
      refine g_sub [(2, .clo (.func 163) [] [.ptr (.ref b_o0 0 []), .ptr (.int .i64 one_a2_c1)]), (10, .int .i64 r_3.1), (7, .own u17_12 (l_12.map (D.int .i64))), (11, .int .i64 (t11_6 + 1))] (Sub.cons' rfl (Sub.cons' rfl (Sub.cons' rfl (Sub.cons' rfl (Sub.nil _))))) ?_
      refine g_perm [_, _] _ ((pf0 _).trans (pf1 _ _ _)) ?_
      exact IH0 _ _ _ (by omega) ⟨l_12, (t11_6 + 1), r_11.2, u17_12, _, rfl, rfl, rfl, hi0', hr⟩

noncomputable def lf_Psnapshot_reader_numbers_s1 (most_a1 : Int) (high_a2 : Int) (c_0 : S_snapshot_reader) : Option (Int ⊕ ((List Int) × S_snapshot_reader)) :=
  (bindX (lf_snapshot_take_s10 most_a1 high_a2 c_0) fun r_1 =>
  some (.inr (r_1.1, r_1.2)))

set_option maxHeartbeats 1000000 in
theorem lg_Psnapshot_reader_numbers_s1 (most_a1 : Int) (high_a2 : Int) (c_0 : S_snapshot_reader) (b_o0 : Nat) (res : Int ⊕ ((List Int) × S_snapshot_reader)) (hr : lf_Psnapshot_reader_numbers_s1 most_a1 high_a2 c_0 = some res) : SpecX Tryz.prog 87 [.ref b_o0 0 [], .int .i64 most_a1, .int .i64 high_a2] [.cell b_o0 (enc_S_snapshot_reader c_0)] (fun d σ => ∃ r : (List Int) × S_snapshot_reader, res = .inr r ∧ d = .lst (r.1.map (D.int .i64)) ∧ σ = [.cell b_o0 (enc_S_snapshot_reader r.2)]) (fun d => ∃ c, res = .inl c ∧ d = .ifc 191 (.agg [.int .i64 c])) := by
  unfold lf_Psnapshot_reader_numbers_s1 at hr
  refine spec_envX [(0, .ref b_o0 0 []), (1, .int .i64 most_a1), (2, .int .i64 high_a2)] Tryz.func87 rfl rfl fun K hK hX => ?_
  refine g_seq ?_
  refine g_run (by kernel_rfl) [(0, .d), (1, .d), (2, .d)] rfl ?_
  refine r_d rfl rfl rfl (s_box rfl rfl rfl) ?_
  refine r_d rfl rfl rfl (s_box rfl rfl rfl) ?_
  refine r_d rfl rfl rfl (s_assign rfl rfl) ?_
  refine r_end ?_
  refine g_seq ?_
  refine g_run (by kernel_rfl) [(0, .d), (1, .d), (2, .d), (3, .w), (4, .d)] rfl ?_
  refine r_d rfl rfl rfl (s_load rfl rfl (by exact ty_P_snapshot_reader) rfl) ?_
  refine r_d rfl rfl rfl (s_move rfl rfl) ?_
  refine r_d rfl rfl rfl (s_makeFunc rfl rfl rfl) ?_
  rcases bindXS hr with ⟨c_r_1, hr_1, rfl⟩ | ⟨r_1, hr_1, hr⟩
  ·
   refine r_die rfl rfl (s_callX _ rfl cl_snapshot_take_int (.cons rfl (Wk.refl _) (.cons rfl (Wk.refl _) (.cons rfl (Wk.refl _) .nil))) (by exact (pf0 _)) (specX_inl (lg_snapshot_take_s10 _ _ _ _ _ hr_1))) (hX _ ⟨_, rfl, rfl⟩)
  ·
   refine r_w rfl rfl rfl (s_call _ rfl cl_snapshot_take_int (.cons rfl (Wk.refl _) (.cons rfl (Wk.refl _) (.cons rfl (Wk.refl _) .nil))) (by exact (pf0 _)) (specX_inr (lg_snapshot_take_s10 _ _ _ _ _ hr_1))) ?_
   rintro _ _ ⟨_, ⟨rfl, rfl⟩, rfl⟩
   refine r_st ((.cell b_o0 (enc_S_snapshot_reader r_1.2)) :: _) rfl ?_
   refine r_d rfl rfl rfl (s_assign rfl rfl) ?_
   refine r_end ?_
   obtain rfl := Option.some.inj hr
   refine g_ret Tryz.func87 _ (.cons (resTmp rfl (Wk.refl _)) .nil) ?_
   exact ⟨_, rfl, rfl, rfl⟩

noncomputable def lf_snapshot_TakeConfig_1_2_s1 (c_0 : S_snapshot_reader) : Option (Int ⊕ (S_api_Fire × S_snapshot_reader)) :=
  (bindX (lf_Psnapshot_reader_number_s1 0 40 c_0) fun r_2 =>
  (bindX (lf_Psnapshot_reader_numbers_s1 4 2147483648 r_2.2) fun r_3 =>
  some (.inr ((⟨r_2.1, r_3.1⟩ : S_api_Fire), r_3.2))))

set_option maxHeartbeats 1000000 in
theorem lg_snapshot_TakeConfig_1_2_s1 (c_0 : S_snapshot_reader) (b_o0 : Nat) (res : Int ⊕ (S_api_Fire × S_snapshot_reader)) (hr : lf_snapshot_TakeConfig_1_2_s1 c_0 = some res) : SpecX Tryz.prog 86 [.ptr (.ref b_o0 0 [])] [.cell b_o0 (enc_S_snapshot_reader c_0)] (fun d σ => ∃ r : S_api_Fire × S_snapshot_reader, res = .inr r ∧ d = enc_S_api_Fire r.1 ∧ σ = [.cell b_o0 (enc_S_snapshot_reader r.2)]) (fun d => ∃ c, res = .inl c ∧ d = .ifc 191 (.agg [.int .i64 c])) := by
  unfold lf_snapshot_TakeConfig_1_2_s1 at hr
  refine spec_envX [(0, .ptr (.ref b_o0 0 []))] Tryz.func86 rfl rfl fun K hK hX => ?_
  refine g_seq ?_
  refine g_run (by kernel_rfl) [(0, .w)] rfl ?_
  refine r_w rfl rfl rfl (s_alloc rfl zv_api_Fire) ?_
  rintro _ _ ⟨b1_0, rfl, rfl⟩
  refine r_end ?_
  refine g_seq ?_
  refine g_run (by kernel_rfl) [(0, .d), (1, .w), (2, .d)] rfl ?_
  refine r_d rfl rfl rfl (s_load rfl rfl (by exact ty_P_snapshot_reader) rfl) ?_
  rcases bindXS hr with ⟨c_r_2, hr_2, rfl⟩ | ⟨r_2, hr_2, hr⟩
  ·
   refine r_die rfl rfl (s_callX _ rfl cl_Psnapshot_reader_number (.cons rfl (Wk.refl _) (.cons rfl (Wk.refl _) (.cons rfl (Wk.refl _) .nil))) (by exact (pf1 _ _ _)) (specX_inl (lg_Psnapshot_reader_number_s1 _ _ _ _ _ hr_2))) (hX _ ⟨_, rfl, rfl⟩)
  ·
   refine r_w rfl rfl rfl (s_call _ rfl cl_Psnapshot_reader_number (.cons rfl (Wk.refl _) (.cons rfl (Wk.refl _) (.cons rfl (Wk.refl _) .nil))) (by exact (pf1 _ _ _)) (specX_inr (lg_Psnapshot_reader_number_s1 _ _ _ _ _ hr_2))) ?_
   rintro _ _ ⟨_, ⟨rfl, rfl⟩, rfl⟩
   refine r_st ((.cell b_o0 (enc_S_snapshot_reader r_2.2)) :: _) rfl ?_
   refine r_d rfl rfl rfl (s_assign rfl rfl) ?_
   refine r_end ?_
   refine g_seq ?_
   refine g_run (by kernel_rfl) [(0, .d), (1, .d), (2, .w), (3, .d), (4, .w)] rfl ?_
   refine r_d rfl rfl rfl (s_move rfl rfl) ?_
   refine r_d rfl rfl rfl (s_load rfl rfl (by exact ty_P_snapshot_reader) rfl) ?_
   rcases bindXS hr with ⟨c_r_3, hr_3, rfl⟩ | ⟨r_3, hr_3, hr⟩
   ·
    refine r_die rfl rfl (s_callX _ rfl cl_Psnapshot_reader_numbers (.cons rfl (Wk.refl _) (.cons rfl (Wk.refl _) (.cons rfl (Wk.refl _) .nil))) (by exact (pf0 _)) (specX_inl (lg_Psnapshot_reader_numbers_s1 _ _ _ _ _ hr_3))) (hX _ ⟨_, rfl, rfl⟩)
   ·
    refine r_w rfl rfl rfl (s_call _ rfl cl_Psnapshot_reader_numbers (.cons rfl (Wk.refl _) (.cons rfl (Wk.refl _) (.cons rfl (Wk.refl _) .nil))) (by exact (pf0 _)) (specX_inr (lg_Psnapshot_reader_numbers_s1 _ _ _ _ _ hr_3))) ?_
    rintro _ _ ⟨_, ⟨rfl, rfl⟩, rfl⟩
    refine r_st ((.cell b_o0 (enc_S_snapshot_reader r_3.2)) :: _) rfl ?_
    refine r_d rfl rfl rfl (s_build rfl bt_api_Fire (.cons rfl (Wk.refl _) (.cons rfl (Wk.refl _) .nil)) (.cons rfl rfl rfl (.cons rfl rfl rfl (.nil _)))) ?_
    refine r_w01 rfl rfl rfl (t_store0 _ rfl rfl rfl (Wk.refl _) (pf1 _ _ _) (by exact ty_api_Fire) rfl rfl rfl) ?_
    refine r_end ?_
    refine g_freeze 1 b1_0 rfl (pf0 _) ?_
    obtain rfl := Option.some.inj hr
    refine g_ret Tryz.func86 _ (.cons (resPtr rfl (by exact ty_api_Fire) rfl (Wk.refl _)) .nil) ?_
    exact ⟨_, rfl, rfl, rfl⟩

noncomputable def lf_snapshot_take_s9_L0 (k : ((List S_api_Fire)) → (S_snapshot_reader) → Option (Int ⊕ ((List S_api_Fire) × S_snapshot_reader))) : Nat → (List S_api_Fire) → S_snapshot_reader → Option (Int ⊕ ((List S_api_Fire) × S_snapshot_reader))
  | 0, out_5, r_7 =>
  (k out_5 r_7)
  | rest + 1, out_5, r_7 =>
  (bindX (lf_snapshot_TakeConfig_1_2_s1 r_7) fun r_11 =>
  ((appO 32 out_5 [r_11.1]).bind fun l_12 =>
  (lf_snapshot_take_s9_L0 k rest l_12 r_11.2)))
noncomputable def lf_snapshot_take_s9 (most_a1 : Int) (c_0 : S_snapshot_reader) : Option (Int ⊕ ((List S_api_Fire) × S_snapshot_reader)) :=
  (bindX (lf_Psnapshot_reader_number_s1 0 most_a1 c_0) fun r_3 =>
  (lf_snapshot_take_s9_L0 (fun out_9 r_10 =>
  some (.inr (out_9, r_10))) (r_3.1 - 0 : Int).toNat [] r_3.2))

set_option maxHeartbeats 1000000 in
theorem lg_snapshot_take_s9 (most_a1 : Int) (c_0 : S_snapshot_reader) (b_o0 : Nat) (res : Int ⊕ ((List S_api_Fire) × S_snapshot_reader)) (hr : lf_snapshot_take_s9 most_a1 c_0 = some res) : SpecX Tryz.prog 85 [.ref b_o0 0 [], .int .i64 most_a1, .clo (.func 86) [] [.ptr (.ref b_o0 0 [])]] [.cell b_o0 (enc_S_snapshot_reader c_0)] (fun d σ => ∃ r : (List S_api_Fire) × S_snapshot_reader, res = .inr r ∧ d = .lst (r.1.map enc_S_api_Fire) ∧ σ = [.cell b_o0 (enc_S_snapshot_reader r.2)]) (fun d => ∃ c, res = .inl c ∧ d = .ifc 191 (.agg [.int .i64 c])) := by
  unfold lf_snapshot_take_s9 at hr
  refine spec_envX [(0, .ref b_o0 0 []), (1, .int .i64 most_a1), (2, .clo (.func 86) [] [.ptr (.ref b_o0 0 [])])] Tryz.func85 rfl rfl fun K hK hX => ?_
  refine g_seq ?_
  refine g_run (by kernel_rfl) [(0, .w)] rfl ?_
  refine r_w rfl rfl rfl (s_nilOwn 123 2 (.inl rfl)) ?_
  rintro _ _ ⟨u6_0, rfl, rfl⟩
  refine r_end ?_
  refine g_seq ?_
  refine g_run (by kernel_rfl) [(0, .w)] rfl ?_
  refine r_w rfl rfl rfl (s_nilOwn 123 2 (.inl rfl)) ?_
  rintro _ _ ⟨u7_1, rfl, rfl⟩
  refine r_end ?_
  refine g_seq ?_
  refine g_seq ?_
  refine g_run (by kernel_rfl) [(0, .d), (1, .d), (2, .w), (3, .d)] rfl ?_
  refine r_d rfl rfl rfl (s_move rfl rfl) ?_
  refine r_d rfl rfl rfl (s_move rfl rfl) ?_
  rcases bindXS hr with ⟨c_r_3, hr_3, rfl⟩ | ⟨r_3, hr_3, hr⟩
  ·
   refine r_die rfl rfl (s_callX _ rfl cl_Psnapshot_reader_number (.cons rfl (Wk.refl _) (.cons rfl (Wk.refl _) (.cons rfl (Wk.refl _) .nil))) (by exact (pf2 _ _ _ _)) (specX_inl (lg_Psnapshot_reader_number_s1 _ _ _ _ _ hr_3))) (hX _ ⟨_, rfl, rfl⟩)
  ·
   refine r_w rfl rfl rfl (s_call _ rfl cl_Psnapshot_reader_number (.cons rfl (Wk.refl _) (.cons rfl (Wk.refl _) (.cons rfl (Wk.refl _) .nil))) (by exact (pf2 _ _ _ _)) (specX_inr (lg_Psnapshot_reader_number_s1 _ _ _ _ _ hr_3))) ?_
   rintro _ _ ⟨_, ⟨rfl, rfl⟩, rfl⟩
   refine r_st ((.cell b_o0 (enc_S_snapshot_reader r_3.2)) :: _) rfl ?_
   refine r_d rfl rfl rfl (s_move rfl rfl) ?_
   refine r_end ?_
   obtain ⟨kk0, hkk0, hr⟩ := exK (fun k => lf_snapshot_take_s9_L0 k (r_3.1 - 0 : Int).toNat [] r_3.2) hr
   refine g_int 10 rfl fun hla0 => ?_
   refine g_blockJ (fun env σ => ∃ (out_9 : (List S_api_Fire)) (r_10 : S_snapshot_reader) (u_8 : Value), env = [(7, .own u_8 (out_9.map enc_S_api_Fire))] ∧ σ = [.row u_8 out_9.length 123 2, .cell b_o0 (enc_S_snapshot_reader r_10)] ∧ kk0 out_9 r_10 = some res) ?_ (fun HK0 => ?_)
   ·
    rintro _ _ ⟨out_9, r_10, u_8, rfl, rfl, hr⟩
    rw [hkk0] at hr
    refine g_seq ?_
    refine g_run (by kernel_rfl) [(0, .d), (1, .d)] rfl ?_
    refine r_d rfl rfl rfl (s_move rfl rfl) ?_
    refine r_d rfl rfl rfl (s_assign rfl rfl) ?_
    refine r_end ?_
    refine g_perm [_] _ (pf1 _ _ _) ?_
    obtain rfl := Option.some.inj hr
    refine g_ret Tryz.func85 _ (.cons (resTmp rfl (Wk.own _ _)) .nil) ?_
    exact ⟨_, rfl, rfl, rfl⟩
   ·
    refine g_sub [(2, .clo (.func 86) [] [.ptr (.ref b_o0 0 [])]), (10, .int .i64 r_3.1), (7, .own u7_1 ([].map enc_S_api_Fire)), (11, .int .i64 0)] (Sub.cons' rfl (Sub.cons' rfl (Sub.cons' rfl (Sub.cons' rfl (Sub.nil _))))) ?_
    refine g_perm [_, _] _ ((pf1 _ _ _).trans (pf1 _ _ _)) ?_
    refine g_loop (fun n env σ => ∃ (out_5 : (List S_api_Fire)) (t11_6 : Int) (r_7 : S_snapshot_reader) (u_4 : Value) (m0 : Nat), (m0 = n) ∧ (env = [(2, .clo (.func 86) [] [.ptr (.ref b_o0 0 [])]), (10, .int .i64 r_3.1), (7, .own u_4 (out_5.map enc_S_api_Fire)), (11, .int .i64 t11_6)]) ∧ (σ = [.cell b_o0 (enc_S_snapshot_reader r_7), .row u_4 out_5.length 123 2]) ∧ (m0 = (r_3.1 - t11_6 : Int).toNat) ∧ (lf_snapshot_take_s9_L0 kk0 m0 out_5 r_7 = some res)) _ ⟨[], 0, r_3.2, u7_1, _, rfl, rfl, rfl, rfl, hr⟩ ?_
    rintro n _ _ ⟨out_5, t11_6, r_7, u_4, m0, rfl, rfl, rfl, hi0, hr⟩ IH0
    refine g_int 11 rfl fun hb0 => ?_
    rcases cntStep t11_6 r_3.1 m0 hi0 with ⟨hm0, ht0⟩ | ⟨m0', hm0, ht0, hi0', hlt0⟩
    ·
     rw [hm0, lf_snapshot_take_s9_L0] at hr
     refine g_seq ?_
     refine g_run (by kernel_rfl) [(0, .d)] rfl ?_
     refine r_d rfl rfl rfl (s_cmp rfl rfl rfl rfl) ?_
     refine r_end ?_
     refine g_seq ?_
     refine g_known 12 false rfl ht0 ?_
     refine g_condF rfl ?_
     refine g_exit rfl ?_
     refine g_sub [(7, .own u_4 (out_5.map enc_S_api_Fire))] (Sub.cons' rfl (Sub.nil _)) ?_
     refine g_perm [_, _] _ ((pf0 _).trans (pf1 _ _ _)) ?_
     exact HK0 _ _ ⟨out_5, r_7, u_4, rfl, rfl, hr⟩
    ·
     rw [hm0, lf_snapshot_take_s9_L0] at hr
     refine g_seq ?_
     refine g_run (by kernel_rfl) [(0, .d)] rfl ?_
     refine r_d rfl rfl rfl (s_cmp rfl rfl rfl rfl) ?_
     refine r_end ?_
     refine g_seq ?_
     refine g_int 10 rfl fun hbN10 => ?_
     refine g_known 12 true rfl ht0 ?_
     refine g_condT rfl ?_
     refine g_skip ?_
     refine g_seq ?_
     refine g_block ?_
     refine g_run (by kernel_rfl) [(0, .d), (1, .d), (2, .w), (3, .d), (4, .w), (5, .d)] rfl ?_
     refine r_d rfl rfl rfl (s_move rfl rfl) ?_
     refine r_d rfl rfl rfl (s_move rfl rfl) ?_
     rcases bindXS hr with ⟨c_r_11, hr_11, rfl⟩ | ⟨r_11, hr_11, hr⟩
     ·
      refine r_die rfl rfl (s_callVX _ rfl rfl cl_snapshot_TakeConfig_1_2 .nil rfl (by exact (pf0 _)) (specX_inl (lg_snapshot_TakeConfig_1_2_s1 _ _ _ hr_11))) (hX _ ⟨_, rfl, rfl⟩)
     ·
      refine r_w rfl rfl rfl (s_callV _ rfl rfl cl_snapshot_TakeConfig_1_2 .nil rfl (by exact (pf0 _)) (specX_inr (lg_snapshot_TakeConfig_1_2_s1 _ _ _ hr_11))) ?_
      rintro _ _ ⟨_, ⟨rfl, rfl⟩, rfl⟩
      refine r_st ((.cell b_o0 (enc_S_snapshot_reader r_11.2)) :: _) rfl ?_
      refine r_d rfl rfl rfl (m_lit (f := enc_S_api_Fire) [.tmp 15] [r_11.1] rfl el_L_api_Fire rfl rfl (by decide) (by decide) (.cons rfl (Wk.refl _) .nil) sz_S_api_Fire (fun _ => rfl)) ?_
      obtain ⟨l_12, hl_12, hr⟩ := bindS hr
      refine r_w rfl rfl rfl (m_appOwn (f := enc_S_api_Fire) out_5 [r_11.1] rfl el_L_api_Fire rfl rfl (asl rfl) (pf1 _ _ _) rfl sz_S_api_Fire hl_12) ?_
      rintro _ _ ⟨u17_12, rfl, rfl⟩
      refine r_d rfl rfl rfl (s_assign rfl rfl) ?_
      refine r_end ?_
      refine g_inBlock ?_
      refine g_run (by kernel_rfl) [(0, .d), (1, .d)] rfl ?_
      refine r_d rfl rfl rfl (s_ar (r := t11_6 + 1) rfl rfl rfl rfl (by omega)) ?_
      refine r_d rfl rfl rfl (s_move rfl rfl) ?_
      refine r_end ?_
      refine g_sub [(2, .clo (.func 86) [] [.ptr (.ref b_o0 0 [])]), (10, .int .i64 r_3.1), (7, .own u17_12 (l_12.map enc_S_api_Fire)), (11, .int .i64 (t11_6 + 1))] (Sub.cons' rfl (Sub.cons' rfl (Sub.cons' rfl (Sub.cons' rfl (Sub.nil _))))) ?_
      refine g_perm [_, _] _ ((pf0 _).trans (pf1 _ _ _)) ?_
      exact IH0 _ _ _ (by omega) ⟨l_12, (t11_6 + 1), r_11.2, u17_12, _, rfl, rfl, rfl, hi0', hr⟩

noncomputable def lf_codec_Bool (b_a0 : (List Int)) (at_a1 : Int) : Option (Bool × Int × Int) :=
  (bif (decide (at_a1 < (0 : Int))) then
  some (false, 0, 2)
  else
  (bif (decide (at_a1 > (b_a0.length : Int))) then
  some (false, 0, 2)
  else
  (bif (at_a1 == (b_a0.length : Int)) then
  some (false, 0, 4)
  else
  ((getI b_a0 at_a1).bind fun q_4 =>
  (bif (decide (q_4 > (1 : Int))) then
  some (false, 0, 3)
  else
  some ((q_4 == (1 : Int)), (wr (at_a1 + (1 : Int))), 0))))))

set_option maxHeartbeats 1000000 in
theorem lg_codec_Bool (b_a0 : (List Int)) (at_a1 : Int) (res : Bool × Int × Int) (hr : lf_codec_Bool b_a0 at_a1 = some res) : Gives Tryz.prog 164 [.lst (b_a0.map (D.int .u8)), .int .i64 at_a1] (.tup [.bool res.1, .int .i64 res.2.1, .int .i64 res.2.2]) := by
  unfold lf_codec_Bool at hr
  refine spec_env [(0, .lst (b_a0.map (D.int .u8))), (1, .int .i64 at_a1)] Tryz.func164 rfl rfl fun K hK => ?_
  refine g_seq ?_
  refine g_run (by kernel_rfl) [(0, .d), (1, .d), (2, .d)] rfl ?_
  refine r_d rfl rfl rfl (s_assign rfl rfl) ?_
  refine r_d rfl rfl rfl (s_assign rfl rfl) ?_
  refine r_d rfl rfl rfl (s_assign rfl rfl) ?_
  refine r_end ?_
  refine g_seq ?_
  refine g_block ?_
  refine g_seq ?_
  refine g_run (by kernel_rfl) [(0, .d), (1, .d), (2, .d), (3, .d), (4, .d), (5, .d), (6, .d), (7, .d), (8, .d)] rfl ?_
  refine r_d rfl rfl rfl (s_move rfl rfl) ?_
  refine r_d rfl rfl rfl (s_cmp rfl rfl rfl rfl) ?_
  refine r_d rfl rfl rfl (s_move rfl rfl) ?_
  refine r_sB 10 rfl hr (fun h10_0 hr => ?_) (fun h10_0 hr => ?_)
  ·
   refine r_skip rfl rfl rfl ?_
   refine r_skip rfl rfl rfl ?_
   refine r_skip rfl rfl rfl ?_
   refine r_skip rfl rfl rfl ?_
   refine r_d rfl rfl rfl (s_pickT rfl rfl rfl) ?_
   refine r_d rfl rfl rfl (s_assign rfl rfl) ?_
   refine r_end ?_
   refine g_condT rfl ?_
   refine g_seq ?_
   refine g_run (by kernel_rfl) [(0, .d), (1, .d), (2, .d)] rfl ?_
   refine r_d rfl rfl rfl (s_assign rfl rfl) ?_
   refine r_d rfl rfl rfl (s_assign rfl rfl) ?_
   refine r_d rfl rfl rfl (s_assign rfl rfl) ?_
   refine r_end ?_
   obtain rfl := Option.some.inj hr
   refine g_ret Tryz.func164 _ (.cons (resTmp rfl (Wk.refl _)) (.cons (resTmp rfl (Wk.refl _)) (.cons (resTmp rfl (Wk.refl _)) .nil))) ?_
   rfl
  ·
   refine r_d rfl rfl rfl (s_move rfl rfl) ?_
   refine r_d rfl rfl rfl (s_move rfl rfl) ?_
   refine r_d rfl rfl rfl (m_len (f := (D.int .u8)) b_a0 rfl el_L_uint8 rfl (asl rfl)) ?_
   refine r_d rfl rfl rfl (s_cmp rfl rfl rfl rfl) ?_
   refine r_d rfl rfl rfl (s_pickF rfl rfl rfl) ?_
   refine r_d rfl rfl rfl (s_assign rfl rfl) ?_
   refine r_end ?_
   refine g_sB 7 rfl hr (fun h7_1 hr => ?_) (fun h7_1 hr => ?_)
   ·
    refine g_condT rfl ?_
    refine g_seq ?_
    refine g_run (by kernel_rfl) [(0, .d), (1, .d), (2, .d)] rfl ?_
    refine r_d rfl rfl rfl (s_assign rfl rfl) ?_
    refine r_d rfl rfl rfl (s_assign rfl rfl) ?_
    refine r_d rfl rfl rfl (s_assign rfl rfl) ?_
    refine r_end ?_
    obtain rfl := Option.some.inj hr
    refine g_ret Tryz.func164 _ (.cons (resTmp rfl (Wk.refl _)) (.cons (resTmp rfl (Wk.refl _)) (.cons (resTmp rfl (Wk.refl _)) .nil))) ?_
    rfl
   ·
    refine g_condF rfl ?_
    refine g_seq ?_
    refine g_run (by kernel_rfl) [(0, .d), (1, .d), (2, .d), (3, .d), (4, .d)] rfl ?_
    refine r_d rfl rfl rfl (s_move rfl rfl) ?_
    refine r_d rfl rfl rfl (s_move rfl rfl) ?_
    refine r_d rfl rfl rfl (m_len (f := (D.int .u8)) b_a0 rfl el_L_uint8 rfl (asl rfl)) ?_
    refine r_d rfl rfl rfl (s_cmp rfl rfl rfl rfl) ?_
    refine r_d rfl rfl rfl (s_assign rfl rfl) ?_
    refine r_end ?_
    refine g_sB 16 rfl hr (fun h16_2 hr => ?_) (fun h16_2 hr => ?_)
    ·
     refine g_condT rfl ?_
     refine g_seq ?_
     refine g_run (by kernel_rfl) [(0, .d), (1, .d), (2, .d)] rfl ?_
     refine r_d rfl rfl rfl (s_assign rfl rfl) ?_
     refine r_d rfl rfl rfl (s_assign rfl rfl) ?_
     refine r_d rfl rfl rfl (s_assign rfl rfl) ?_
     refine r_end ?_
     obtain rfl := Option.some.inj hr
     refine g_ret Tryz.func164 _ (.cons (resTmp rfl (Wk.refl _)) (.cons (resTmp rfl (Wk.refl _)) (.cons (resTmp rfl (Wk.refl _)) .nil))) ?_
     rfl
    ·
     refine g_condF rfl ?_
     refine g_seq ?_
     refine g_run (by kernel_rfl) [(0, .d), (1, .d), (2, .d), (3, .d), (4, .d), (5, .d)] rfl ?_
     refine r_d rfl rfl rfl (s_move rfl rfl) ?_
     refine r_d rfl rfl rfl (s_move rfl rfl) ?_
     obtain ⟨q_4, hq_4, hr⟩ := bindS hr
     refine r_d rfl rfl rfl (m_index (f := (D.int .u8)) b_a0 rfl el_L_uint8 rfl (asl rfl) rfl hq_4 (fun _ => rfl) rfl) ?_
     refine r_d rfl rfl rfl (s_load rfl rfl (by exact ty_uint8) rfl) ?_
     refine r_d rfl rfl rfl (s_cmp rfl rfl rfl rfl) ?_
     refine r_d rfl rfl rfl (s_assign rfl rfl) ?_
     refine r_end ?_
     refine g_sB 21 rfl hr (fun h21_4 hr => ?_) (fun h21_4 hr => ?_)
     ·
      refine g_condT rfl ?_
      refine g_seq ?_
      refine g_run (by kernel_rfl) [(0, .d), (1, .d), (2, .d)] rfl ?_
      refine r_d rfl rfl rfl (s_assign rfl rfl) ?_
      refine r_d rfl rfl rfl (s_assign rfl rfl) ?_
      refine r_d rfl rfl rfl (s_assign rfl rfl) ?_
      refine r_end ?_
      obtain rfl := Option.some.inj hr
      refine g_ret Tryz.func164 _ (.cons (resTmp rfl (Wk.refl _)) (.cons (resTmp rfl (Wk.refl _)) (.cons (resTmp rfl (Wk.refl _)) .nil))) ?_
      rfl
     ·
      refine g_condF rfl ?_
      refine g_skip ?_
      refine g_inBlock ?_
      refine g_seq ?_
      refine g_run (by kernel_rfl) [(0, .d), (1, .d), (2, .d), (3, .d), (4, .d), (5, .d), (6, .d), (7, .d), (8, .d), (9, .d)] rfl ?_
      refine r_d rfl rfl rfl (s_move rfl rfl) ?_
      refine r_d rfl rfl rfl (s_move rfl rfl) ?_
      refine r_d rfl rfl rfl (m_index (f := (D.int .u8)) b_a0 rfl el_L_uint8 rfl (asl rfl) rfl hq_4 (fun _ => rfl) rfl) ?_
      refine r_d rfl rfl rfl (s_load rfl rfl (by exact ty_uint8) rfl) ?_
      refine r_d rfl rfl rfl (s_cmp rfl rfl rfl rfl) ?_
      refine r_d rfl rfl rfl (s_move rfl rfl) ?_
      refine r_d rfl rfl rfl (s_arW rfl rfl rfl rfl) ?_
      refine r_d rfl rfl rfl (s_assign rfl rfl) ?_
      refine r_d rfl rfl rfl (s_assign rfl rfl) ?_
      refine r_d rfl rfl rfl (s_assign rfl rfl) ?_
      refine r_end ?_
      obtain rfl := Option.some.inj hr
      refine g_ret Tryz.func164 _ (.cons (resTmp rfl (Wk.refl _)) (.cons (resTmp rfl (Wk.refl _)) (.cons (resTmp rfl (Wk.refl _)) .nil))) ?_
      rfl

noncomputable def lf_Psnapshot_reader_flag_s1 (c_0 : S_snapshot_reader) : Option (Int ⊕ (Bool × S_snapshot_reader)) :=
  ((lf_codec_Bool c_0.f0_b c_0.f1_at).bind fun r_1 =>
  (bindX (lf_Psnapshot_reader_done_s1 r_1.2.1 r_1.2.2 c_0) fun r_2 =>
  some (.inr (r_1.1, r_2))))

set_option maxHeartbeats 1000000 in
theorem lg_Psnapshot_reader_flag_s1 (c_0 : S_snapshot_reader) (b_o0 : Nat) (res : Int ⊕ (Bool × S_snapshot_reader)) (hr : lf_Psnapshot_reader_flag_s1 c_0 = some res) : SpecX Tryz.prog 88 [.ref b_o0 0 []] [.cell b_o0 (enc_S_snapshot_reader c_0)] (fun d σ => ∃ r : Bool × S_snapshot_reader, res = .inr r ∧ d = .bool r.1 ∧ σ = [.cell b_o0 (enc_S_snapshot_reader r.2)]) (fun d => ∃ c, res = .inl c ∧ d = .ifc 191 (.agg [.int .i64 c])) := by
  unfold lf_Psnapshot_reader_flag_s1 at hr
  refine spec_envX [(0, .ref b_o0 0 [])] Tryz.func88 rfl rfl fun K hK hX => ?_
  refine g_seq ?_
  refine g_run (by kernel_rfl) [(0, .d)] rfl ?_
  refine r_d rfl rfl rfl (s_assign rfl rfl) ?_
  refine r_end ?_
  refine g_seq ?_
  refine g_anyX (by kernel_rfl) (by kernel_rfl) [(0, .d), (1, .d), (2, .d), (3, .r), (4, .d), (5, .d), (6, .d), (7, .r), (8, .d), (9, .d), (10, .d), (11, .d), (12, .d), (13, .d), (14, .d), (15, .d)] (by kernel_rfl) ?_
  refine r_d rfl rfl rfl (s_move rfl rfl) ?_
  refine r_d rfl rfl rfl (s_nilCheckR rfl rfl) ?_
  refine r_d rfl rfl rfl (s_fieldRef rfl fl_snapshot_reader_0 rfl) ?_
  refine r_r rfl rfl rfl (t_loadRef rfl rfl (.head _) rfl rfl (by exact ty_L_uint8) rfl) ?_
  refine r_d rfl rfl rfl (s_move rfl rfl) ?_
  refine r_d rfl rfl rfl (s_nilCheckR rfl rfl) ?_
  refine r_d rfl rfl rfl (s_fieldRef rfl fl_snapshot_reader_1 rfl) ?_
  refine r_r rfl rfl rfl (t_loadRef rfl rfl (.head _) rfl rfl (by exact ty_int) rfl) ?_
  obtain ⟨r_1, hr_1, hr⟩ := bindS hr
  refine r_d rfl rfl rfl (s_callD rfl cl_codec_Bool (.cons rfl (Wk.refl _) (.cons rfl (Wk.refl _) .nil)) (lg_codec_Bool _ _ _ hr_1)) ?_
  refine r_d rfl rfl rfl (s_move rfl rfl) ?_
  refine r_d rfl rfl rfl (s_extract rfl rfl rfl) ?_
  refine r_d rfl rfl rfl (s_extract rfl rfl rfl) ?_
  refine r_d rfl rfl rfl (s_extract rfl rfl rfl) ?_
  refine r_d rfl rfl rfl (s_assign rfl rfl) ?_
  refine r_d rfl rfl rfl (s_assign rfl rfl) ?_
  refine r_d rfl rfl rfl (s_assign rfl rfl) ?_
  refine r_end ?_
  refine g_seq ?_
  refine g_run (by kernel_rfl) [(0, .d), (1, .d), (2, .d), (3, .w)] rfl ?_
  refine r_d rfl rfl rfl (s_move rfl rfl) ?_
  refine r_d rfl rfl rfl (s_move rfl rfl) ?_
  refine r_d rfl rfl rfl (s_move rfl rfl) ?_
  rcases bindXS hr with ⟨c_r_2, hr_2, rfl⟩ | ⟨r_2, hr_2, hr⟩
  ·
   refine r_die rfl rfl (s_callX _ rfl cl_Psnapshot_reader_done (.cons rfl (Wk.refl _) (.cons rfl (Wk.refl _) (.cons rfl (Wk.refl _) .nil))) (by exact (pf0 _)) (specX_inl (lg_Psnapshot_reader_done_s1 _ _ _ _ _ hr_2))) (hX _ ⟨_, rfl, rfl⟩)
  ·
   refine r_w rfl rfl rfl (s_call _ rfl cl_Psnapshot_reader_done (.cons rfl (Wk.refl _) (.cons rfl (Wk.refl _) (.cons rfl (Wk.refl _) .nil))) (by exact (pf0 _)) (specX_inr (lg_Psnapshot_reader_done_s1 _ _ _ _ _ hr_2))) ?_
   rintro _ _ ⟨_, ⟨rfl, rfl⟩, rfl⟩
   refine r_st ((.cell b_o0 (enc_S_snapshot_reader r_2)) :: _) rfl ?_
   refine r_end ?_
   refine g_seq ?_
   refine g_run (by kernel_rfl) [(0, .d), (1, .d)] rfl ?_
   refine r_d rfl rfl rfl (s_move rfl rfl) ?_
   refine r_d rfl rfl rfl (s_assign rfl rfl) ?_
   refine r_end ?_
   obtain rfl := Option.some.inj hr
   refine g_ret Tryz.func88 _ (.cons (resTmp rfl (Wk.refl _)) .nil) ?_
   exact ⟨_, rfl, rfl, rfl⟩

noncomputable def lf_snapshot_TakeConfig_1_s1 (fuel : Nat) (c_0 : S_snapshot_reader) : Option (Int ⊕ (S_api_Config × S_snapshot_reader)) :=
  (bindX (lf_snapshot_take_s6 fuel 1000 c_0) fun r_2 =>
  (bindX (lf_snapshot_take_s7 fuel 500 r_2.2) fun r_3 =>
  (bindX (lf_snapshot_take_s8 fuel 1048576 r_3.2) fun r_4 =>
  (bindX (lf_snapshot_take_s9 5000 r_4.2) fun r_5 =>
  (bindX (lf_Psnapshot_reader_number_s1 0 2147483648 r_5.2) fun r_6 =>
  (bindX (lf_Psnapshot_reader_number_s1 0 1048576 r_6.2) fun r_7 =>
  (bindX (lf_Psnapshot_reader_flag_s1 r_7.2) fun r_8 =>
  some (.inr ((⟨r_2.1, r_3.1, r_4.1, r_5.1, r_6.1, r_7.1, r_8.1⟩ : S_api_Config), r_8.2)))))))))

set_option maxHeartbeats 1000000 in
theorem lg_snapshot_TakeConfig_1_s1 (fuel : Nat) (c_0 : S_snapshot_reader) (b_o0 : Nat) (res : Int ⊕ (S_api_Config × S_snapshot_reader)) (hr : lf_snapshot_TakeConfig_1_s1 fuel c_0 = some res) : SpecX Tryz.prog 77 [.ref b_o0 0 []] [.cell b_o0 (enc_S_snapshot_reader c_0)] (fun d σ => ∃ r : S_api_Config × S_snapshot_reader, res = .inr r ∧ d = enc_S_api_Config r.1 ∧ σ = [.cell b_o0 (enc_S_snapshot_reader r.2)]) (fun d => ∃ c, res = .inl c ∧ d = .ifc 191 (.agg [.int .i64 c])) := by
  unfold lf_snapshot_TakeConfig_1_s1 at hr
  refine spec_envX [(0, .ref b_o0 0 [])] Tryz.func77 rfl rfl fun K hK hX => ?_
  refine g_seq ?_
  refine g_run (by kernel_rfl) [(0, .d), (1, .w)] rfl ?_
  refine r_d rfl rfl rfl (s_box rfl rfl rfl) ?_
  refine r_w rfl rfl rfl (s_alloc rfl zv_api_Config) ?_
  rintro _ _ ⟨b2_0, rfl, rfl⟩
  refine r_end ?_
  refine g_seq ?_
  refine g_run (by kernel_rfl) [(0, .d), (1, .d), (2, .d), (3, .w), (4, .d), (5, .w)] rfl ?_
  refine r_d rfl rfl rfl (s_load rfl rfl (by exact ty_P_snapshot_reader) rfl) ?_
  refine r_d rfl rfl rfl (s_load rfl rfl (by exact ty_P_snapshot_reader) rfl) ?_
  refine r_d rfl rfl rfl (s_makeFunc rfl rfl rfl) ?_
  rcases bindXS hr with ⟨c_r_2, hr_2, rfl⟩ | ⟨r_2, hr_2, hr⟩
  ·
   refine r_die rfl rfl (s_callX _ rfl cl_snapshot_take_api_Frame (.cons rfl (Wk.refl _) (.cons rfl (Wk.refl _) (.cons rfl (Wk.refl _) .nil))) (by exact (pf1 _ _ _)) (specX_inl (lg_snapshot_take_s6 fuel _ _ _ _ hr_2))) (hX _ ⟨_, rfl, rfl⟩)
  ·
   refine r_w rfl rfl rfl (s_call _ rfl cl_snapshot_take_api_Frame (.cons rfl (Wk.refl _) (.cons rfl (Wk.refl _) (.cons rfl (Wk.refl _) .nil))) (by exact (pf1 _ _ _)) (specX_inr (lg_snapshot_take_s6 fuel _ _ _ _ hr_2))) ?_
   rintro _ _ ⟨_, ⟨rfl, rfl⟩, rfl⟩
   refine r_st ((.cell b_o0 (enc_S_snapshot_reader r_2.2)) :: _) rfl ?_
   refine r_d rfl rfl rfl (s_fieldRef rfl fl_api_Config_0 rfl) ?_
   refine r_w01 rfl rfl rfl (t_store _ rfl rfl rfl (Wk.refl _) (pf1 _ _ _) rfl rfl (by exact ty_L_api_Frame) rfl rfl rfl) ?_
   refine r_end ?_
   refine g_seq ?_
   refine g_run (by kernel_rfl) [(0, .d), (1, .d), (2, .d), (3, .w), (4, .d), (5, .w)] rfl ?_
   refine r_d rfl rfl rfl (s_load rfl rfl (by exact ty_P_snapshot_reader) rfl) ?_
   refine r_d rfl rfl rfl (s_load rfl rfl (by exact ty_P_snapshot_reader) rfl) ?_
   refine r_d rfl rfl rfl (s_makeFunc rfl rfl rfl) ?_
   rcases bindXS hr with ⟨c_r_3, hr_3, rfl⟩ | ⟨r_3, hr_3, hr⟩
   ·
    refine r_die rfl rfl (s_callX _ rfl cl_snapshot_take_api_Item (.cons rfl (Wk.refl _) (.cons rfl (Wk.refl _) (.cons rfl (Wk.refl _) .nil))) (by exact (pf1 _ _ _)) (specX_inl (lg_snapshot_take_s7 fuel _ _ _ _ hr_3))) (hX _ ⟨_, rfl, rfl⟩)
   ·
    refine r_w rfl rfl rfl (s_call _ rfl cl_snapshot_take_api_Item (.cons rfl (Wk.refl _) (.cons rfl (Wk.refl _) (.cons rfl (Wk.refl _) .nil))) (by exact (pf1 _ _ _)) (specX_inr (lg_snapshot_take_s7 fuel _ _ _ _ hr_3))) ?_
    rintro _ _ ⟨_, ⟨rfl, rfl⟩, rfl⟩
    refine r_st ((.cell b_o0 (enc_S_snapshot_reader r_3.2)) :: _) rfl ?_
    refine r_d rfl rfl rfl (s_fieldRef rfl fl_api_Config_1 rfl) ?_
    refine r_w01 rfl rfl rfl (t_store _ rfl rfl rfl (Wk.refl _) (pf1 _ _ _) rfl rfl (by exact ty_L_api_Item) rfl rfl rfl) ?_
    refine r_end ?_
    refine g_seq ?_
    refine g_run (by kernel_rfl) [(0, .d), (1, .d), (2, .w), (3, .d), (4, .w)] rfl ?_
    refine r_d rfl rfl rfl (s_load rfl rfl (by exact ty_P_snapshot_reader) rfl) ?_
    refine r_d rfl rfl rfl (s_makeFunc rfl rfl rfl) ?_
    rcases bindXS hr with ⟨c_r_4, hr_4, rfl⟩ | ⟨r_4, hr_4, hr⟩
    ·
     refine r_die rfl rfl (s_callX _ rfl cl_snapshot_take_api_Bind (.cons rfl (Wk.refl _) (.cons rfl (Wk.refl _) (.cons rfl (Wk.refl _) .nil))) (by exact (pf1 _ _ _)) (specX_inl (lg_snapshot_take_s8 fuel _ _ _ _ hr_4))) (hX _ ⟨_, rfl, rfl⟩)
    ·
     refine r_w rfl rfl rfl (s_call _ rfl cl_snapshot_take_api_Bind (.cons rfl (Wk.refl _) (.cons rfl (Wk.refl _) (.cons rfl (Wk.refl _) .nil))) (by exact (pf1 _ _ _)) (specX_inr (lg_snapshot_take_s8 fuel _ _ _ _ hr_4))) ?_
     rintro _ _ ⟨_, ⟨rfl, rfl⟩, rfl⟩
     refine r_st ((.cell b_o0 (enc_S_snapshot_reader r_4.2)) :: _) rfl ?_
     refine r_d rfl rfl rfl (s_fieldRef rfl fl_api_Config_2 rfl) ?_
     refine r_w01 rfl rfl rfl (t_store _ rfl rfl rfl (Wk.refl _) (pf1 _ _ _) rfl rfl (by exact ty_api_Binds) rfl rfl rfl) ?_
     refine r_end ?_
     refine g_seq ?_
     refine g_run (by kernel_rfl) [(0, .d), (1, .d), (2, .w), (3, .d), (4, .w)] rfl ?_
     refine r_d rfl rfl rfl (s_load rfl rfl (by exact ty_P_snapshot_reader) rfl) ?_
     refine r_d rfl rfl rfl (s_makeFunc rfl rfl rfl) ?_
     rcases bindXS hr with ⟨c_r_5, hr_5, rfl⟩ | ⟨r_5, hr_5, hr⟩
     ·
      refine r_die rfl rfl (s_callX _ rfl cl_snapshot_take_api_Fire (.cons rfl (Wk.refl _) (.cons rfl (Wk.refl _) (.cons rfl (Wk.refl _) .nil))) (by exact (pf1 _ _ _)) (specX_inl (lg_snapshot_take_s9 _ _ _ _ hr_5))) (hX _ ⟨_, rfl, rfl⟩)
     ·
      refine r_w rfl rfl rfl (s_call _ rfl cl_snapshot_take_api_Fire (.cons rfl (Wk.refl _) (.cons rfl (Wk.refl _) (.cons rfl (Wk.refl _) .nil))) (by exact (pf1 _ _ _)) (specX_inr (lg_snapshot_take_s9 _ _ _ _ hr_5))) ?_
      rintro _ _ ⟨_, ⟨rfl, rfl⟩, rfl⟩
      refine r_st ((.cell b_o0 (enc_S_snapshot_reader r_5.2)) :: _) rfl ?_
      refine r_d rfl rfl rfl (s_fieldRef rfl fl_api_Config_3 rfl) ?_
      refine r_w01 rfl rfl rfl (t_store _ rfl rfl rfl (Wk.refl _) (pf1 _ _ _) rfl rfl (by exact ty_L_api_Fire) rfl rfl rfl) ?_
      refine r_end ?_
      refine g_seq ?_
      refine g_run (by kernel_rfl) [(0, .d), (1, .w), (2, .d), (3, .w)] rfl ?_
      refine r_d rfl rfl rfl (s_load rfl rfl (by exact ty_P_snapshot_reader) rfl) ?_
      rcases bindXS hr with ⟨c_r_6, hr_6, rfl⟩ | ⟨r_6, hr_6, hr⟩
      ·
       refine r_die rfl rfl (s_callX _ rfl cl_Psnapshot_reader_number (.cons rfl (Wk.refl _) (.cons rfl (Wk.refl _) (.cons rfl (Wk.refl _) .nil))) (by exact (pf1 _ _ _)) (specX_inl (lg_Psnapshot_reader_number_s1 _ _ _ _ _ hr_6))) (hX _ ⟨_, rfl, rfl⟩)
      ·
       refine r_w rfl rfl rfl (s_call _ rfl cl_Psnapshot_reader_number (.cons rfl (Wk.refl _) (.cons rfl (Wk.refl _) (.cons rfl (Wk.refl _) .nil))) (by exact (pf1 _ _ _)) (specX_inr (lg_Psnapshot_reader_number_s1 _ _ _ _ _ hr_6))) ?_
       rintro _ _ ⟨_, ⟨rfl, rfl⟩, rfl⟩
       refine r_st ((.cell b_o0 (enc_S_snapshot_reader r_6.2)) :: _) rfl ?_
       refine r_d rfl rfl rfl (s_fieldRef rfl fl_api_Config_4 rfl) ?_
       refine r_w01 rfl rfl rfl (t_store _ rfl rfl rfl (Wk.refl _) (pf1 _ _ _) rfl rfl (by exact ty_int) rfl rfl rfl) ?_
       refine r_end ?_
       refine g_seq ?_
       refine g_run (by kernel_rfl) [(0, .d), (1, .w), (2, .d), (3, .w)] rfl ?_
       refine r_d rfl rfl rfl (s_load rfl rfl (by exact ty_P_snapshot_reader) rfl) ?_
       rcases bindXS hr with ⟨c_r_7, hr_7, rfl⟩ | ⟨r_7, hr_7, hr⟩
       ·
        refine r_die rfl rfl (s_callX _ rfl cl_Psnapshot_reader_number (.cons rfl (Wk.refl _) (.cons rfl (Wk.refl _) (.cons rfl (Wk.refl _) .nil))) (by exact (pf1 _ _ _)) (specX_inl (lg_Psnapshot_reader_number_s1 _ _ _ _ _ hr_7))) (hX _ ⟨_, rfl, rfl⟩)
       ·
        refine r_w rfl rfl rfl (s_call _ rfl cl_Psnapshot_reader_number (.cons rfl (Wk.refl _) (.cons rfl (Wk.refl _) (.cons rfl (Wk.refl _) .nil))) (by exact (pf1 _ _ _)) (specX_inr (lg_Psnapshot_reader_number_s1 _ _ _ _ _ hr_7))) ?_
        rintro _ _ ⟨_, ⟨rfl, rfl⟩, rfl⟩
        refine r_st ((.cell b_o0 (enc_S_snapshot_reader r_7.2)) :: _) rfl ?_
        refine r_d rfl rfl rfl (s_fieldRef rfl fl_api_Config_5 rfl) ?_
        refine r_w01 rfl rfl rfl (t_store _ rfl rfl rfl (Wk.refl _) (pf1 _ _ _) rfl rfl (by exact ty_int) rfl rfl rfl) ?_
        refine r_end ?_
        refine g_seq ?_
        refine g_run (by kernel_rfl) [(0, .d), (1, .w), (2, .d), (3, .w)] rfl ?_
        refine r_d rfl rfl rfl (s_load rfl rfl (by exact ty_P_snapshot_reader) rfl) ?_
        rcases bindXS hr with ⟨c_r_8, hr_8, rfl⟩ | ⟨r_8, hr_8, hr⟩
        ·
         refine r_die rfl rfl (s_callX _ rfl cl_Psnapshot_reader_flag (.cons rfl (Wk.refl _) .nil) (by exact (pf1 _ _ _)) (specX_inl (lg_Psnapshot_reader_flag_s1 _ _ _ hr_8))) (hX _ ⟨_, rfl, rfl⟩)
        ·
         refine r_w rfl rfl rfl (s_call _ rfl cl_Psnapshot_reader_flag (.cons rfl (Wk.refl _) .nil) (by exact (pf1 _ _ _)) (specX_inr (lg_Psnapshot_reader_flag_s1 _ _ _ hr_8))) ?_
         rintro _ _ ⟨_, ⟨rfl, rfl⟩, rfl⟩
         refine r_st ((.cell b_o0 (enc_S_snapshot_reader r_8.2)) :: _) rfl ?_
         refine r_d rfl rfl rfl (s_fieldRef rfl fl_api_Config_6 rfl) ?_
         refine r_w01 rfl rfl rfl (t_store _ rfl rfl rfl (Wk.refl _) (pf1 _ _ _) rfl rfl (by exact ty_bool) rfl rfl rfl) ?_
         refine r_end ?_
         refine g_seq ?_
         refine g_run (by kernel_rfl) [(0, .r), (1, .w)] rfl ?_
         refine r_r rfl rfl rfl (t_loadRef rfl rfl (.head _) rfl rfl (by exact ty_api_Config) rfl) ?_
         refine r_w01 rfl rfl rfl (t_store0 _ rfl rfl rfl (Wk.refl _) (pf0 _) (by exact ty_api_Config) rfl rfl rfl) ?_
         refine r_end ?_
         refine g_freeze 2 b2_0 rfl (pf0 _) ?_
         obtain rfl := Option.some.inj hr
         refine g_ret Tryz.func77 _ (.cons (resPtr rfl (by exact ty_api_Config) rfl (Wk.refl _)) .nil) ?_
         exact ⟨_, rfl, rfl, rfl⟩

end Go.Proofs.YtdoljfkjdfaakaaGreat


namespace Go.Proofs.YtdoljfkjdfaakaaGreat
set_option maxRecDepth 100000
open Go.RowKit

/-! ### writers -/
def catO (r s : Option (List Int)) : Option (List Int) := r.bind fun a => s.bind fun b => some (a ++ b)
theorem catO_nil (r : Option (List Int)) : catO r (some []) = r := by cases r <;> simp [catO]
theorem catO_some {r s : Option (List Int)} {e : List Int} (h : catO r s = some e) : ∃ a b, r = some a ∧ s = some b ∧ e = a ++ b := by
  cases r <;> cases s <;> simp [catO] at h
  exact ⟨_, _, rfl, rfl, h.symm⟩
def OkW (r : Option (List Int)) (b b' : List Int) (bad' : Bool) : Prop := match r with
  | none => bad' = true
  | some e => bad' = false ∧ b' = b ++ e
/-- It appends r, or says that the value is not sound; at most N bytes. -/
def Wr {W : Type} (mk : List Int → Bool → W) (f : W → Option W) (N : Nat) (r : Option (List Int)) : Prop :=
  ∀ b bad, b.length + N ≤ 1000000000 → ∃ b' bad', f (mk b bad) = some (mk b' bad') ∧ b'.length ≤ b.length + N ∧ (bad = true → bad' = true) ∧ (bad = false → OkW r b b' bad')
section
variable {W α β : Type} {mk : List Int → Bool → W} {f g : W → Option W} {N M : Nat} {r s : Option (List Int)}
theorem Wr.pure : Wr mk some 0 (some []) := fun b bad _ => ⟨b, bad, rfl, by omega, id, fun h => ⟨h, by simp⟩⟩
theorem Wr.bind (hf : Wr mk f N r) (hg : Wr mk g M s) : Wr mk (fun c => (f c).bind g) (N + M) (catO r s) := fun b bad hb => by
  obtain ⟨b1, bad1, e1, l1, m1, o1⟩ := hf b bad (by omega)
  obtain ⟨b2, bad2, e2, l2, m2, o2⟩ := hg b1 bad1 (by omega)
  refine ⟨b2, bad2, by simp only [e1]; exact e2, by omega, fun h => m2 (m1 h), fun h => ?_⟩
  have o1 := o1 h
  cases r with
  | none => exact m2 o1
  | some x =>
    obtain ⟨rfl, rfl⟩ := o1
    have o2 := o2 rfl
    cases s with
    | none => exact o2
    | some y => exact ⟨o2.1, by rw [o2.2, List.append_assoc]⟩
theorem Wr.le (h : Wr mk f N r) (hn : N ≤ M) : Wr mk f M r := fun b bad hb => by
  obtain ⟨b1, bad1, e1, l1, m1, o1⟩ := h b bad (by omega)
  exact ⟨b1, bad1, e1, by omega, m1, o1⟩
theorem Wr.eq (h : Wr mk f N r) (he : r = s) : Wr mk f N s := he ▸ h
theorem Wr.last (h : Wr mk f N r) : Wr mk (fun c => (f c).bind fun x => some x) N r := (Wr.bind h Wr.pure).eq (catO_nil r)
/-- A list, one by one. -/
def runW (put : α → W → Option W) : List α → W → Option W
  | [], c => some c
  | x :: l, c => (put x c).bind (runW put l)
def eCat (e : α → Option (List Int)) : List α → Option (List Int)
  | [] => some []
  | x :: l => catO (e x) (eCat e l)
theorem wr_run {put : α → W → Option W} {e : α → Option (List Int)} {n : Nat} : ∀ (l : List α), (∀ x ∈ l, Wr mk (put x) n (e x)) → Wr mk (runW put l) (l.length * n) (eCat e l)
  | [], _ => (Wr.pure : Wr mk some 0 (some [])).le (Nat.zero_le _)
  | x :: l, h => ((h x (by simp)).bind (wr_run l fun y hy => h y (by simp [hy]))).le (by simp only [List.length_cons, Nat.add_mul]; omega)
/-- A number from low to high. -/
def eNum (lo hi n : Int) : Option (List Int) := if lo ≤ n ∧ n ≤ hi then some (encN n) else none
def eText (s : ByteArray) : Option (List Int) := if s.size ≤ 40 then some (encN s.size ++ toY s.data.toList) else none
def eBool (x : Bool) : Option (List Int) := some [bif x then 1 else 0]
def eList (most : Int) (e : α → Option (List Int)) (l : List α) : Option (List Int) := catO (eNum 0 most (l.length : Int)) (eCat e l)
def eNums (most hi : Int) : List Int → Option (List Int) := eList most (eNum 0 hi)
mutual
def bT : T → List Int
  | .mk k i s ar => encN k ++ (if k = 2 then (encN s.size ++ toY s.data.toList) ++ (encN ar.length ++ bL ar) else encN i)
def bL : List T → List Int
  | [] => []
  | t :: l => bT t ++ bL l
end
noncomputable def eT (t : T) : Option (List Int) := if rightT t = true then some (bT t) else none
def bArgs (n : ByteArray) (ts : List T) : List Int := (encN n.size ++ toY n.data.toList) ++ (encN ts.length ++ bL ts)
noncomputable def eAtom (a : At) : Option (List Int) := if rightA a = true then some (bArgs a.n a.ts) else none
noncomputable def eGoal (g : Gl) : Option (List Int) := if rightG g = true then some (encN g.op ++ bArgs g.n g.ts) else none
def eDecl (d : S_api_Decl) : Option (List Int) := catO (eText d.f0_Name) (eNum 0 6 d.f1_Arity)
noncomputable def eRule (r : S_api_Rule) : Option (List Int) := catO (eText r.f0_Name) (catO (eList 4 eAtom r.f1_Keep) (catO (eList 4 eAtom r.f2_Remove) (catO (eList 12 eGoal r.f3_Guard) (catO (eList 12 eGoal r.f4_Body) (eNum 0 1048576 r.f5_Vars)))))
noncomputable def eProgram (p : S_api_Program) : Option (List Int) := catO (eNum 1 1 1) (catO (eList 30 eDecl p.f0_Decls) (eList 40 eRule p.f1_Rules))
noncomputable def eFrame (f : S_api_Frame) : Option (List Int) := catO (eNum 0 2147483648 f.f1_ID) (catO (eNum (-1) 2147483648 f.f2_Occ) (if f.f1_ID = 0 then eGoal f.f0_Goal else if f.f0_Goal.op = 0 ∧ f.f0_Goal.n.toList = [] ∧ f.f0_Goal.ts = [] then some [] else none))
noncomputable def eItem (x : Int × At) : Option (List Int) := catO (eNum 0 2147483648 x.1) (eAtom x.2)
noncomputable def eBind (x : Int × T) : Option (List Int) := catO (eNum 0 1048576 x.1) (eT x.2)
def eFire (x : S_api_Fire) : Option (List Int) := catO (eNum 0 40 x.f0_Rule) (eNums 4 2147483648 x.f1_IDs)
noncomputable def eConfig (c : S_api_Config) : Option (List Int) := catO (eNum 2 2 2) (catO (eList 1000 eFrame c.f0_Stack) (catO (eList 500 eItem c.f1_Store) (catO (eList 1048576 eBind c.f2_Binds) (catO (eList 5000 eFire c.f3_Fired) (catO (eNum 0 2147483648 c.f4_Next) (catO (eNum 0 1048576 c.f5_Fresh) (eBool c.f6_Failed)))))))
noncomputable def eFact (x : S_api_Fact) : Option (List Int) := catO (eNum 0 2147483648 x.f0_ID) (catO (eAtom x.f1_Atom) (eNums 64 64 x.f2_Just))
def eApplied (x : S_api_Applied) : Option (List Int) := catO (eNum 0 40 x.f0_Rule) (catO (eNums 4 2147483648 x.f1_Heads) (catO (eNums 4 2147483648 x.f2_Gone) (catO (eNums 12 2147483648 x.f3_Made) (catO (eBool x.f4_Failed) (eNums 64 64 x.f5_Just)))))
noncomputable def eMemory (m : S_api_Memory) : Option (List Int) := catO (eNum 3 3 3) (catO (eList 5000 eFact m.f0_Facts) (catO (eList 5000 eFact m.f1_Past) (catO (eList 5000 eApplied m.f2_Log) (catO (eNum 0 2147483648 m.f3_Next) (eNum 0 64 m.f4_Given)))))
theorem encN_len (n : Int) : (encN n).length ≤ 10 := by
  unfold encN
  rw [len_toY, List.length_take]
  omega
theorem text_len (s : ByteArray) : (encN s.size ++ toY s.data.toList).length ≤ 10 + s.size := by
  have := encN_len s.size
  rw [List.length_append, len_toY]
  have : s.data.toList.length = s.size := Array.length_toList
  omega
/-- What is written is a list of numbers first, then the elements, unless the number is bad. -/
theorem wr_list {num : W → Option W} {L : W → Option W} {bad : W → Bool} (hbad : ∀ b x, bad (mk b x) = x) {most : Int} {e : α → Option (List Int)} {l : List α} {n m : Nat} (hm : (l.length : Int) ≤ most → l.length ≤ m)
    (hn : Wr mk num 10 (eNum 0 most (l.length : Int))) (hl : Wr mk L (l.length * n) (eCat e l)) : Wr mk (fun c => (num c).bind fun r => bif bad r then some r else L r) (10 + m * n) (eList most e l) := fun b bd hb => by
  obtain ⟨b1, bad1, e1, l1, m1, o1⟩ := hn b bd (by omega)
  simp only [e1, Option.bind_some, hbad]
  cases bad1 with
  | true =>
    refine ⟨b1, true, rfl, by omega, fun _ => rfl, fun h => ?_⟩
    have o1 := o1 h
    unfold eList eNum at *
    split at o1
    · cases o1.1
    · rename_i h1
      rw [if_neg h1]
      rfl
  | false =>
    have hbd : bd = false := by
      cases bd
      · rfl
      · exact absurd (m1 rfl) (by simp)
    have o1 := o1 hbd
    have h1 : 0 ≤ (l.length : Int) ∧ (l.length : Int) ≤ most := by
      unfold eNum at o1
      split at o1
      · assumption
      · cases o1
    have h2 : l.length * n ≤ m * n := Nat.mul_le_mul_right _ (hm h1.2)
    obtain ⟨b2, bad2, e2, l2, m2, o2⟩ := hl b1 false (by omega)
    refine ⟨b2, bad2, e2, by omega, fun h => absurd (h.symm.trans hbd) (by simp), fun _ => ?_⟩
    have o2 := o2 rfl
    unfold eList
    unfold eNum at *
    rw [if_pos h1] at o1 ⊢
    cases hc : eCat e l with
    | none =>
      rw [hc] at o2
      exact o2
    | some y =>
      rw [hc] at o2
      exact ⟨o2.1, by rw [o2.2, o1.2, List.append_assoc]⟩
end
end Go.Proofs.YtdoljfkjdfaakaaGreat


namespace Go.Proofs.YtdoljfkjdfaakaaGreat
set_option maxRecDepth 100000
open Go.RowKit

theorem Wr.congr {W : Type} {mk : List Int → Bool → W} {f g : W → Option W} {N : Nat} {r : Option (List Int)} (h : Wr mk f N r) (he : ∀ c, f c = g c) : Wr mk g N r := by
  have : f = g := funext he
  subst this
  exact h
theorem okW_num {lo hi n : Int} {b : List Int} {bad : Bool} (h : bad = true ↔ ¬(lo ≤ n ∧ n ≤ hi)) : OkW (eNum lo hi n) b (b ++ encN n) bad := by
  unfold eNum
  split
  · rename_i h1
    refine ⟨?_, rfl⟩
    cases bad
    · rfl
    · exact absurd h1 (h.1 rfl)
  · rename_i h1
    exact h.2 h1
theorem okW_text {s : ByteArray} {b b' : List Int} {bad : Bool} (h : bad = true ↔ ¬(s.size ≤ 40)) (hb : s.size ≤ 40 → b' = b ++ (encN s.size ++ toY s.data.toList)) : OkW (eText s) b b' bad := by
  unfold eText
  split
  · rename_i h1
    refine ⟨?_, hb h1⟩
    cases bad
    · rfl
    · exact absurd h1 (h.1 rfl)
  · rename_i h1
    exact h.2 h1
theorem eNum_in {lo hi n : Int} (h1 : lo ≤ n) (h2 : n ≤ hi) : eNum lo hi n = some (encN n) := if_pos ⟨h1, h2⟩
theorem eText_in {s : ByteArray} (h : s.size ≤ 40) : eText s = some (encN s.size ++ toY s.data.toList) := if_pos h
theorem catO_in (a b : List Int) : catO (some a) (some b) = some (a ++ b) := rfl
theorem nil_of_list {s : ByteArray} (h : s.toList = []) : s = ⟨#[]⟩ := by
  obtain ⟨⟨l⟩⟩ := s
  rw [Lib.toList_data] at h
  subst h
  rfl
theorem nilB : (⟨#[]⟩ : ByteArray).toList = [] := by rw [Lib.toList_data]
theorem size_nil {s : ByteArray} (h : s.toList = []) : s.size = 0 := by rw [nil_of_list h]; rfl
theorem op_size {s : ByteArray} (h : isOp s = true) : s.size = 1 := by
  unfold isOp at h
  rw [decide_eq_true_eq] at h
  have : s.size = s.toList.length := (toList_size s).symm
  rcases h with h | h | h | h | h <;> rw [this, h] <;> rfl
theorem name_size {s : ByteArray} (h : isName s = true) : s.size ≤ 40 := by
  unfold isName at h
  simp only [Bool.and_eq_true] at h
  exact (isWord_true h.1.1).2.1
theorem form_k {t : T} (h : formT t = true) : t.k = 0 ∨ t.k = 1 ∨ t.k = 2 := by
  rcases Classical.em (t.k = 0) with h0 | h0
  · exact .inl h0
  rcases Classical.em (t.k = 1) with h1 | h1
  · exact .inr (.inl h1)
  rcases Classical.em (t.k = 2) with h2 | h2
  · exact .inr (.inr h2)
  rw [formT_3 h0 h1 h2] at h
  cases h
theorem form_2 {t : T} (h : formT t = true) (k : t.k = 2) : t.i = 0 ∧ t.s.size ≤ 40 ∧ t.ar.length ≤ 6 ∧ formL t.ar = true := by
  rw [formT_2 k, Bool.and_eq_true] at h
  obtain ⟨h1, h2⟩ := h
  unfold headF at h1
  simp only [Bool.and_eq_true, Bool.or_eq_true, decide_eq_true_eq] at h1
  obtain ⟨h3, h4 | h4⟩ := h1
  · exact ⟨h3, by rw [op_size h4.1]; omega, by omega, h2⟩
  · exact ⟨h3, name_size h4.1, h4.2, h2⟩
theorem bT_2 {t : T} (k : t.k = 2) : bT t = encN t.k ++ ((encN t.s.size ++ toY t.s.data.toList) ++ (encN t.ar.length ++ bL t.ar)) := by
  cases t
  simp only [T.k] at k
  subst k
  rfl
theorem bT_n {t : T} (k : t.k ≠ 2) : bT t = encN t.k ++ encN t.i := by
  cases t
  simp only [T.k] at k
  simp only [bT, if_neg k, T.k, T.i]
theorem rightL_in {l : List T} (h : rightL l = true) : formL l = true ∧ sizeL l ≤ 200 ∧ depthL l ≤ 20 := by
  unfold rightL at h
  simp only [Bool.and_eq_true, decide_eq_true_eq] at h
  exact ⟨h.1.1, h.1.2, h.2⟩
theorem rightT_in {t : T} (h : rightT t = true) : formT t = true ∧ sizeT t ≤ 200 ∧ depthT t ≤ 20 := by
  unfold rightT at h
  simp only [Bool.and_eq_true, decide_eq_true_eq] at h
  exact ⟨h.1.1, h.1.2, h.2⟩
theorem rightA_in {a : At} (h : rightA a = true) : a.n.size ≤ 40 ∧ a.ts.length ≤ 6 ∧ rightL a.ts = true := by
  unfold rightA at h
  simp only [Bool.and_eq_true, decide_eq_true_eq] at h
  exact ⟨name_size h.1.1, h.1.2, h.2⟩
theorem arityG_in {op : Int} {n : Nat} (h : arityG op = (n : Int)) : 1 ≤ op ∧ op ≤ 12 ∧ n ≤ 2 := by
  unfold arityG at h
  split at h
  · omega
  · split at h
    · omega
    · split at h <;> omega
theorem rightG_in {g : Gl} (h : rightG g = true) : 0 ≤ g.op ∧ g.op ≤ 12 ∧ g.n.size ≤ 40 ∧ g.ts.length ≤ 6 ∧ rightL g.ts = true := by
  unfold rightG at h
  split at h
  · rename_i h0
    obtain ⟨h1, h2, h3⟩ := rightA_in h
    exact ⟨by omega, by omega, h1, h2, h3⟩
  · simp only [Bool.and_eq_true, decide_eq_true_eq] at h
    obtain ⟨h1, h2, h3⟩ := arityG_in h.1.2
    exact ⟨by omega, by omega, by rw [size_nil h.1.1]; omega, by omega, h.2⟩
theorem depth_2 {t : T} (k : t.k = 2) : depthT t = depthL t.ar + 1 ∧ sizeT t = 1 + sizeL t.ar := by
  cases t
  simp only [T.k] at k
  subst k
  exact ⟨rfl, rfl⟩
theorem size_pos (t : T) : 1 ≤ sizeT t := by rw [sizeT_eq]; omega


/-! ### The program -/
theorem wr_num (n lo hi : Int) : Wr S_snapshot_writer.mk (lf_Psnapshot_writer_number_s1 n lo hi) 10 (eNum lo hi n) := fun b bad hb => by
  have hl := encN_len n
  have hc : x_cPutInt b n = some (b ++ encN n) := if_pos (by omega)
  have hl2 : (b ++ encN n).length ≤ b.length + 10 := by
    rw [List.length_append]
    omega
  unfold lf_Psnapshot_writer_number_s1
  simp only [hc, Option.bind_some]
  cases bad with
  | true => exact ⟨b ++ encN n, true, by simp only [cond_true], hl2, id, fun h => by cases h⟩
  | false =>
    simp only [cond_false]
    by_cases h1 : n < lo
    · exact ⟨b ++ encN n, true, by rw [decide_eq_true h1, cond_true], hl2, fun _ => rfl, fun _ => okW_num (by simp; omega)⟩
    · exact ⟨b ++ encN n, decide (n > hi), by rw [decide_eq_false h1, cond_false], hl2, fun h => (by cases h), fun _ => okW_num (by simp; omega)⟩
theorem wr_text (s : ByteArray) {B : Nat} (hs : s.size ≤ B) : Wr S_snapshot_writer.mk (lf_Psnapshot_writer_text_s1 s) (10 + B) (eText s) := fun b bad hb => by
  have hl := text_len s
  have hc : x_cPutText b s = some (b ++ (encN s.size ++ toY s.data.toList)) := if_pos ⟨by omega, by omega⟩
  have hl2 : (b ++ (encN s.size ++ toY s.data.toList)).length ≤ b.length + (10 + B) := by
    rw [List.length_append]
    omega
  unfold lf_Psnapshot_writer_text_s1
  simp only [hc, Option.bind_some]
  cases bad with
  | true => exact ⟨_, true, by simp only [cond_true], hl2, id, fun h => by cases h⟩
  | false => exact ⟨_, decide ((s.size : Int) > 40), by simp only [cond_false], hl2, fun h => (by cases h), fun _ => okW_text (by simp; omega) fun _ => rfl⟩
theorem wr_flag (x : Bool) : Wr S_snapshot_writer.mk (fun c => (x_cPutBool c.f0_b x).bind fun r => some (⟨r, c.f1_bad⟩ : S_snapshot_writer)) 1 (eBool x) := fun b bad hb => by
  have hc : x_cPutBool b x = some (b ++ [bif x then 1 else 0]) := if_pos (by omega)
  simp only [hc, Option.bind_some]
  exact ⟨_, bad, rfl, by simp, id, fun h => ⟨h, rfl⟩⟩
theorem loop_s4 (rec : List T → Int → S_snapshot_writer → Option S_snapshot_writer) (k : S_snapshot_writer → Option S_snapshot_writer) : ∀ l c, lf_snapshot_list_s4_L0 k rec l c = (runW (lfo_Psnapshot_writer_term_s1 rec) l c).bind k
  | [], c => rfl
  | x :: l, c => by
    rw [lf_snapshot_list_s4_L0, runW, Option.bind_assoc]
    congr 1
    funext r
    exact loop_s4 rec k l r
theorem runs_T {rec : List T → Int → S_snapshot_writer → Option S_snapshot_writer} : ∀ (l : List T), formL l = true → (∀ t ∈ l, formT t = true → Wr S_snapshot_writer.mk (lfo_Psnapshot_writer_term_s1 rec t) (70 * sizeT t) (some (bT t))) → Wr S_snapshot_writer.mk (runW (lfo_Psnapshot_writer_term_s1 rec) l) (70 * sizeL l) (some (bL l))
  | [], _, _ => Wr.pure
  | x :: l, hf, h => by
    simp only [formL, Bool.and_eq_true] at hf
    exact (((h x (by simp) hf.1).bind (runs_T l hf.2 fun y hy => h y (by simp [hy]))).eq (catO_in _ _)).le (by simp only [sizeL]; omega)
theorem wr_term1 {rec : List T → Int → S_snapshot_writer → Option S_snapshot_writer} (t : T) (hf : formT t = true) (hr : t.k = 2 → Wr S_snapshot_writer.mk (rec t.ar 6) (10 + 70 * sizeL t.ar) (some (encN t.ar.length ++ bL t.ar))) : Wr S_snapshot_writer.mk (lfo_Psnapshot_writer_term_s1 rec t) (70 * sizeT t) (some (bT t)) := by
  have hp := size_pos t
  rcases form_k hf with k | k | k
  · rw [formT_0 k, decide_eq_true_eq] at hf
    refine (((wr_num t.k 0 2).bind (wr_num t.i (-2147483648) 2147483648).last).le (M := 70 * sizeT t) (by omega)).eq (s := some (bT t)) ?_ |>.congr fun c => ?_
    · rw [eNum_in (by omega) (by omega), eNum_in (by omega) (by omega), bT_n (by omega)]
      rfl
    · unfold lfo_Psnapshot_writer_term_s1
      simp [k]
  · rw [formT_1 k, decide_eq_true_eq] at hf
    refine (((wr_num t.k 0 2).bind (wr_num t.i 0 1048576).last).le (M := 70 * sizeT t) (by omega)).eq (s := some (bT t)) ?_ |>.congr fun c => ?_
    · rw [eNum_in (by omega) (by omega), eNum_in (by omega) (by omega), bT_n (by omega)]
      rfl
    · unfold lfo_Psnapshot_writer_term_s1
      simp [k]
  · obtain ⟨f1, f2, f3, f4⟩ := form_2 hf k
    have hz := (depth_2 k).2
    refine (((wr_num t.k 0 2).bind ((wr_text t.s f2).bind (hr k).last)).le (M := 70 * sizeT t) (by omega)).eq (s := some (bT t)) ?_ |>.congr fun c => ?_
    · rw [eNum_in (by omega) (by omega), eText_in f2, bT_2 k]
      rfl
    · unfold lfo_Psnapshot_writer_term_s1
      simp [k]
theorem depthL_mem {t : T} : ∀ {l : List T}, t ∈ l → depthT t ≤ depthL l
  | x :: l, h => by
    simp only [depthL]
    rcases List.mem_cons.1 h with rfl | h
    · omega
    · have := depthL_mem h
      omega
theorem bind_some' {W : Type} (x : Option W) : (x.bind fun y => some y) = x := by cases x <;> rfl
theorem wr_args : ∀ (fuel : Nat) (l : List T), formL l = true → l.length ≤ 6 → depthL l < fuel → Wr S_snapshot_writer.mk (lf_snapshot_list_s4 fuel l 6) (10 + 70 * sizeL l) (some (encN l.length ++ bL l))
  | 0, l, _, _, h => by omega
  | fuel + 1, l, hf, hl, hd => by
    have hrun := runs_T (rec := lf_snapshot_list_s4 fuel) l hf fun t ht hft => wr_term1 t hft fun k => wr_args fuel t.ar (form_2 hft k).2.2.2 (form_2 hft k).2.2.1 (by
      have := depthL_mem ht
      have := (depth_2 k).1
      omega)
    refine fun b bad hb => ?_
    obtain ⟨b1, bad1, e1, l1, m1, o1⟩ := wr_num (l.length : Int) 0 6 b bad (by omega)
    rw [lf_snapshot_list_s4]
    simp only [e1, Option.bind_some, loop_s4, bind_some']
    rw [eNum_in (by omega) (by omega)] at o1
    cases bad1 with
    | true =>
      refine ⟨b1, true, rfl, by omega, fun _ => rfl, fun h => ?_⟩
      exact absurd (o1 h).1 (by simp)
    | false =>
      have hbd : bad = false := by
        cases bad
        · rfl
        · exact absurd (m1 rfl) (by simp)
      obtain ⟨_, rfl⟩ := o1 hbd
      obtain ⟨b2, bad2, e2, l2, m2, o2⟩ := hrun (b ++ encN l.length) false (by omega)
      refine ⟨b2, bad2, e2, by omega, fun h => absurd (h.symm.trans hbd) (by simp), fun _ => ?_⟩
      obtain ⟨o3, o4⟩ := o2 rfl
      exact ⟨o3, by rw [o4, List.append_assoc]⟩
theorem wr_parts {fuel : Nat} (hfu : 21 ≤ fuel) (n : ByteArray) (l : List T) (hn : n.size ≤ 40) (hl : l.length ≤ 6) (hr : rightL l = true) : Wr S_snapshot_writer.mk (lf_Psnapshot_writer_parts_s1 fuel n l) 14060 (some (bArgs n l)) := by
  obtain ⟨h1, h2, h3⟩ := rightL_in hr
  refine (((wr_text n hn).bind (wr_args fuel l h1 hl (by omega)).last).le (M := 14060) (by omega)).eq (s := some (bArgs n l)) ?_
  rw [eText_in hn]
  rfl
theorem wr_atom {fuel : Nat} (hfu : 21 ≤ fuel) (a : At) (ha : wtL a.ts ≤ 1000000000) : Wr S_snapshot_writer.mk (lf_Psnapshot_writer_atom_s1 fuel a) 14060 (eAtom a) := fun b bad hb => by
  unfold lf_Psnapshot_writer_atom_s1
  simp only [x_rightA_eq _ ha, Option.bind_some, bind_some']
  cases bad with
  | true => exact ⟨b, true, rfl, by omega, id, fun h => by cases h⟩
  | false =>
    simp only [cond_false]
    unfold eAtom
    by_cases hr : rightA a = true
    · obtain ⟨r1, r2, r3⟩ := rightA_in hr
      rw [if_pos hr, hr]
      obtain ⟨b', bad', e1, l1, m1, o1⟩ := wr_parts hfu a.n a.ts r1 r2 r3 b false hb
      exact ⟨b', bad', e1, l1, m1, fun _ => o1 rfl⟩
    · rw [if_neg hr, Bool.not_eq_true _ |>.mp hr]
      exact ⟨b, true, rfl, by omega, fun _ => rfl, fun _ => rfl⟩
theorem wr_goal {fuel : Nat} (hfu : 21 ≤ fuel) (g : Gl) (ha : wtL g.ts ≤ 1000000000) : Wr S_snapshot_writer.mk (lf_Psnapshot_writer_goal_s1 fuel g) 14070 (eGoal g) := fun b bad hb => by
  unfold lf_Psnapshot_writer_goal_s1
  simp only [x_rightG_eq _ ha, Option.bind_some, bind_some']
  cases bad with
  | true => exact ⟨b, true, rfl, by omega, id, fun h => by cases h⟩
  | false =>
    simp only [cond_false]
    unfold eGoal
    by_cases hr : rightG g = true
    · obtain ⟨r0, r0', r1, r2, r3⟩ := rightG_in hr
      rw [if_pos hr, hr]
      have := ((wr_num g.op 0 12).bind (wr_parts hfu g.n g.ts r1 r2 r3)).eq (s := some (encN g.op ++ bArgs g.n g.ts)) (by rw [eNum_in r0 r0']; rfl) b false hb
      obtain ⟨b', bad', e1, l1, m1, o1⟩ := this
      exact ⟨b', bad', e1, l1, m1, fun _ => o1 rfl⟩
    · rw [if_neg hr, Bool.not_eq_true _ |>.mp hr]
      exact ⟨b, true, rfl, by omega, fun _ => rfl, fun _ => rfl⟩
theorem wr_bindT {fuel : Nat} (hfu : 21 ≤ fuel) (x : Int × T) (ha : wt x.2 ≤ 1000000000) : Wr S_snapshot_writer.mk (lf_snapshot_Config_2_s1 fuel x) 14010 (eBind x) := by
  refine ((wr_num x.1 0 1048576).bind (g := fun r => bif r.f1_bad then (bif (!true) then (lf_Psnapshot_writer_term_s1 fuel x.2 ⟨r.f0_b, true⟩) else some ⟨r.f0_b, true⟩) else (bif (!(!rightT x.2)) then (lf_Psnapshot_writer_term_s1 fuel x.2 ⟨r.f0_b, !rightT x.2⟩) else some ⟨r.f0_b, !rightT x.2⟩)) (M := 14000) (s := eT x.2) ?_).congr fun c => ?_
  · intro b bad hb
    cases bad with
    | true => exact ⟨b, true, rfl, by omega, id, fun h => by cases h⟩
    | false =>
      simp only [cond_false]
      unfold eT
      by_cases hr : rightT x.2 = true
      · obtain ⟨r1, r2, r3⟩ := rightT_in hr
        rw [if_pos hr, hr]
        obtain ⟨b', bad', e1, l1, m1, o1⟩ := (wr_term1 (rec := lf_snapshot_list_s4 fuel) x.2 r1 fun k => wr_args fuel x.2.ar (form_2 r1 k).2.2.2 (form_2 r1 k).2.2.1 (by have := (depth_2 k).1; omega)).le (M := 14000) (by omega) b false hb
        exact ⟨b', bad', e1, l1, m1, fun _ => o1 rfl⟩
      · rw [if_neg hr, Bool.not_eq_true _ |>.mp hr]
        exact ⟨b, true, rfl, by omega, fun _ => rfl, fun _ => rfl⟩
  · unfold lf_snapshot_Config_2_s1
    simp only [x_rightT_eq _ ha, Option.bind_some, bind_some']
theorem wr_frame {fuel : Nat} (hfu : 21 ≤ fuel) (f : S_api_Frame) (ha : wtL f.f0_Goal.ts ≤ 1000000000) : Wr S_snapshot_writer.mk (lf_Psnapshot_writer_frame_s1 fuel f) 14090 (eFrame f) := by
  unfold lf_Psnapshot_writer_frame_s1
  refine ((wr_num f.f1_ID 0 2147483648).bind ((wr_num f.f2_Occ (-1) 2147483648).bind (M := 14070) ?_)).le (by omega)
  intro b bad hb
  by_cases h0 : f.f1_ID = 0
  · simp only [h0, bind_some', beq_self_eq_true, cond_true, if_true]
    exact wr_goal hfu f.f0_Goal ha b bad hb
  · have h0' : (f.f1_ID == 0) = false := by simpa using h0
    simp only [h0', cond_false, if_neg h0]
    cases bad with
    | true => exact ⟨b, true, rfl, by omega, id, fun h => by cases h⟩
    | false =>
      simp only [cond_false]
      by_cases h1 : f.f0_Goal.op = 0
      · by_cases h2 : f.f0_Goal.n.toList = []
        · have e1 : (f.f0_Goal.op != 0) = false := by simp [h1]
          have e2 : (!(f.f0_Goal.n.toList == (⟨#[]⟩ : ByteArray).toList)) = false := by rw [h2, nilB]; rfl
          rw [e1, e2, cond_false, cond_false]
          refine ⟨b, _, rfl, by omega, fun h => (by cases h), fun _ => ?_⟩
          cases hts : f.f0_Goal.ts with
          | nil =>
            rw [if_pos ⟨h1, h2, rfl⟩]
            exact ⟨by simp, by simp⟩
          | cons x l =>
            rw [if_neg (by simp)]
            show _ = true
            simp
        · have e1 : (f.f0_Goal.op != 0) = false := by simp [h1]
          have e2 : (!(f.f0_Goal.n.toList == (⟨#[]⟩ : ByteArray).toList)) = true := by
            rw [Bool.not_eq_true', beq_eq_false_iff_ne, nilB]
            exact h2
          rw [e1, e2, cond_false, cond_true]
          exact ⟨b, true, rfl, by omega, fun _ => rfl, fun _ => by rw [if_neg (fun h => h2 h.2.1)]; rfl⟩
      · have e1 : (f.f0_Goal.op != 0) = true := by simpa using h1
        rw [e1, cond_true]
        exact ⟨b, true, rfl, by omega, fun _ => rfl, fun _ => by rw [if_neg (fun h => h1 h.1)]; rfl⟩
theorem loop_s3 (k : S_snapshot_writer → Option S_snapshot_writer) (fuel : Nat) : ∀ l c, lf_snapshot_list_s3_L0 k fuel l c = (runW (lf_Psnapshot_writer_atom_s1 fuel) l c).bind k
  | [], c => rfl
  | x :: l, c => by
    rw [lf_snapshot_list_s3_L0, runW, Option.bind_assoc]
    congr 1
    funext r
    exact loop_s3 k fuel l r
theorem wr_list3 {fuel : Nat} (hfu : 21 ≤ fuel) (l : List At) (ha : ∀ x ∈ l, wtL x.ts ≤ 1000000000) : Wr S_snapshot_writer.mk (lf_snapshot_list_s3 fuel l 4) (10 + 4 * 14060) (eList 4 eAtom l) := by
  unfold lf_snapshot_list_s3
  simp only [loop_s3, bind_some']
  exact wr_list (bad := S_snapshot_writer.f1_bad) (fun _ _ => rfl) (fun h => by omega) (wr_num _ 0 4) (wr_run l fun x hx => wr_atom hfu x (ha x hx))
theorem loop_s5 (k : S_snapshot_writer → Option S_snapshot_writer) (fuel : Nat) : ∀ l c, lf_snapshot_list_s5_L0 k fuel l c = (runW (lf_Psnapshot_writer_goal_s1 fuel) l c).bind k
  | [], c => rfl
  | x :: l, c => by
    rw [lf_snapshot_list_s5_L0, runW, Option.bind_assoc]
    congr 1
    funext r
    exact loop_s5 k fuel l r
theorem wr_list5 {fuel : Nat} (hfu : 21 ≤ fuel) (l : List Gl) (ha : ∀ x ∈ l, wtL x.ts ≤ 1000000000) : Wr S_snapshot_writer.mk (lf_snapshot_list_s5 fuel l 12) (10 + 12 * 14070) (eList 12 eGoal l) := by
  unfold lf_snapshot_list_s5
  simp only [loop_s5, bind_some']
  exact wr_list (bad := S_snapshot_writer.f1_bad) (fun _ _ => rfl) (fun h => by omega) (wr_num _ 0 12) (wr_run l fun x hx => wr_goal hfu x (ha x hx))
theorem wr_decl (d : S_api_Decl) (hd : d.f0_Name.size ≤ 2000) : Wr S_snapshot_writer.mk (lf_snapshot_Program_1_s1 d) 2020 (eDecl d) := by
  unfold lf_snapshot_Program_1_s1
  exact ((wr_text d.f0_Name hd).bind (wr_num d.f1_Arity 0 6).last)
/-- What is asked of a rule: few nodes, a name that is not too long. -/
structure RuleS (x : S_api_Rule) : Prop where
  n : x.f0_Name.size ≤ 2000
  k : ∀ y ∈ x.f1_Keep, wtL y.ts ≤ 1000000000
  r : ∀ y ∈ x.f2_Remove, wtL y.ts ≤ 1000000000
  g : ∀ y ∈ x.f3_Guard, wtL y.ts ≤ 1000000000
  b : ∀ y ∈ x.f4_Body, wtL y.ts ≤ 1000000000
theorem wr_rule {fuel : Nat} (hfu : 21 ≤ fuel) (r : S_api_Rule) (h : RuleS r) : Wr S_snapshot_writer.mk (lf_Psnapshot_writer_rule_s1 fuel r) 460000 (eRule r) := by
  unfold lf_Psnapshot_writer_rule_s1
  exact ((wr_text r.f0_Name h.n).bind ((wr_list3 hfu r.f1_Keep h.k).bind ((wr_list3 hfu r.f2_Remove h.r).bind ((wr_list5 hfu r.f3_Guard h.g).bind ((wr_list5 hfu r.f4_Body h.b).bind (wr_num r.f5_Vars 0 1048576).last))))).le (by omega)
theorem loop_s1 (k : S_snapshot_writer → Option S_snapshot_writer) : ∀ l c, lf_snapshot_list_s1_L0 k l c = (runW (lf_snapshot_Program_1_s1) l c).bind k
  | [], c => rfl
  | x :: l, c => by
    rw [lf_snapshot_list_s1_L0, runW, Option.bind_assoc]
    congr 1
    funext r
    exact loop_s1 k l r
theorem wr_list1 (l : List S_api_Decl) (ha : ∀ x ∈ l, x.f0_Name.size ≤ 2000) : Wr S_snapshot_writer.mk (lf_snapshot_list_s1 l 30) (10 + 30 * 2020) (eList 30 eDecl l) := by
  unfold lf_snapshot_list_s1
  simp only [loop_s1, bind_some']
  exact wr_list (bad := S_snapshot_writer.f1_bad) (fun _ _ => rfl) (fun h => by omega) (wr_num _ 0 30) (wr_run l fun x hx => wr_decl x (ha x hx))
theorem loop_s2 (k : S_snapshot_writer → Option S_snapshot_writer) (fuel : Nat) : ∀ l c, lf_snapshot_list_s2_L0 k fuel l c = (runW (lf_Psnapshot_writer_rule_s1 fuel) l c).bind k
  | [], c => rfl
  | x :: l, c => by
    rw [lf_snapshot_list_s2_L0, runW, Option.bind_assoc]
    congr 1
    funext r
    exact loop_s2 k fuel l r
theorem wr_list2 {fuel : Nat} (hfu : 21 ≤ fuel) (l : List S_api_Rule) (ha : ∀ x ∈ l, RuleS x) : Wr S_snapshot_writer.mk (lf_snapshot_list_s2 fuel l 40) (10 + 40 * 460000) (eList 40 eRule l) := by
  unfold lf_snapshot_list_s2
  simp only [loop_s2, bind_some']
  exact wr_list (bad := S_snapshot_writer.f1_bad) (fun _ _ => rfl) (fun h => by omega) (wr_num _ 0 40) (wr_run l fun x hx => wr_rule hfu x (ha x hx))
theorem loop_s6 (k : S_snapshot_writer → Option S_snapshot_writer) (fuel : Nat) : ∀ l c, lf_snapshot_list_s6_L0 k fuel l c = (runW (lf_Psnapshot_writer_frame_s1 fuel) l c).bind k
  | [], c => rfl
  | x :: l, c => by
    rw [lf_snapshot_list_s6_L0, runW, Option.bind_assoc]
    congr 1
    funext r
    exact loop_s6 k fuel l r
theorem wr_list6 {fuel : Nat} (hfu : 21 ≤ fuel) (l : List S_api_Frame) (ha : ∀ x ∈ l, wtL x.f0_Goal.ts ≤ 1000000000) : Wr S_snapshot_writer.mk (lf_snapshot_list_s6 fuel l 1000) (10 + 1000 * 14090) (eList 1000 eFrame l) := by
  unfold lf_snapshot_list_s6
  simp only [loop_s6, bind_some']
  exact wr_list (bad := S_snapshot_writer.f1_bad) (fun _ _ => rfl) (fun h => by omega) (wr_num _ 0 1000) (wr_run l fun x hx => wr_frame hfu x (ha x hx))
theorem wr_item {fuel : Nat} (hfu : 21 ≤ fuel) (x : Int × At) (ha : wtL x.2.ts ≤ 1000000000) : Wr S_snapshot_writer.mk (lf_snapshot_Config_1_s1 fuel x) 14070 (eItem x) := by
  unfold lf_snapshot_Config_1_s1
  exact ((wr_num x.1 0 2147483648).bind (wr_atom hfu x.2 ha).last)
theorem loop_s7 (k : S_snapshot_writer → Option S_snapshot_writer) (fuel : Nat) : ∀ l c, lf_snapshot_list_s7_L0 k fuel l c = (runW (lf_snapshot_Config_1_s1 fuel) l c).bind k
  | [], c => rfl
  | x :: l, c => by
    rw [lf_snapshot_list_s7_L0, runW, Option.bind_assoc]
    congr 1
    funext r
    exact loop_s7 k fuel l r
theorem wr_list7 {fuel : Nat} (hfu : 21 ≤ fuel) (l : List (Int × At)) (ha : ∀ x ∈ l, wtL x.2.ts ≤ 1000000000) : Wr S_snapshot_writer.mk (lf_snapshot_list_s7 fuel l 500) (10 + 500 * 14070) (eList 500 eItem l) := by
  unfold lf_snapshot_list_s7
  simp only [loop_s7, bind_some']
  exact wr_list (bad := S_snapshot_writer.f1_bad) (fun _ _ => rfl) (fun h => by omega) (wr_num _ 0 500) (wr_run l fun x hx => wr_item hfu x (ha x hx))
theorem loop_s8 (k : S_snapshot_writer → Option S_snapshot_writer) (fuel : Nat) : ∀ l c, lf_snapshot_list_s8_L0 k fuel l c = (runW (lf_snapshot_Config_2_s1 fuel) l c).bind k
  | [], c => rfl
  | x :: l, c => by
    rw [lf_snapshot_list_s8_L0, runW, Option.bind_assoc]
    congr 1
    funext r
    exact loop_s8 k fuel l r
theorem wr_list8 {fuel : Nat} (hfu : 21 ≤ fuel) (l : List (Int × T)) (ha : ∀ x ∈ l, wt x.2 ≤ 1000000000) : Wr S_snapshot_writer.mk (lf_snapshot_list_s8 fuel l 1048576) (10 + l.length * 14010) (eList 1048576 eBind l) := by
  unfold lf_snapshot_list_s8
  simp only [loop_s8, bind_some']
  exact wr_list (bad := S_snapshot_writer.f1_bad) (fun _ _ => rfl) (fun _ => Nat.le_refl _) (wr_num _ 0 1048576) (wr_run l fun x hx => wr_bindT hfu x (ha x hx))
theorem loop_s10 (k : S_snapshot_writer → Option S_snapshot_writer) (h : Int) : ∀ l c, lf_snapshot_list_s10_L0 k h l c = (runW (fun x => lf_Psnapshot_writer_numbers_1_s1 x h) l c).bind k
  | [], c => rfl
  | x :: l, c => by
    rw [lf_snapshot_list_s10_L0, runW, Option.bind_assoc]
    congr 1
    funext r
    exact loop_s10 k h l r
theorem wr_nums (l : List Int) (most hi : Int) {m : Nat} (hm : most ≤ (m : Int)) : Wr S_snapshot_writer.mk (lf_Psnapshot_writer_numbers_s1 l most hi) (10 + m * 10) (eNums most hi l) := by
  unfold lf_Psnapshot_writer_numbers_s1 lf_snapshot_list_s10
  simp only [loop_s10, bind_some']
  exact wr_list (bad := S_snapshot_writer.f1_bad) (fun _ _ => rfl) (fun h => by omega) (wr_num _ 0 most) (wr_run l fun x hx => (wr_num x 0 hi).last)
theorem wr_fire (x : S_api_Fire) : Wr S_snapshot_writer.mk (lf_snapshot_Config_3_s1 x) 60 (eFire x) := by
  unfold lf_snapshot_Config_3_s1
  exact ((wr_num x.f0_Rule 0 40).bind (wr_nums x.f1_IDs 4 2147483648 (m := 4) (by omega)).last)
theorem loop_s9 (k : S_snapshot_writer → Option S_snapshot_writer) : ∀ l c, lf_snapshot_list_s9_L0 k l c = (runW (lf_snapshot_Config_3_s1) l c).bind k
  | [], c => rfl
  | x :: l, c => by
    rw [lf_snapshot_list_s9_L0, runW, Option.bind_assoc]
    congr 1
    funext r
    exact loop_s9 k l r
theorem wr_list9 (l : List S_api_Fire) : Wr S_snapshot_writer.mk (lf_snapshot_list_s9 l 5000) (10 + 5000 * 60) (eList 5000 eFire l) := by
  unfold lf_snapshot_list_s9
  simp only [loop_s9, bind_some']
  exact wr_list (bad := S_snapshot_writer.f1_bad) (fun _ _ => rfl) (fun h => by omega) (wr_num _ 0 5000) (wr_run l fun x hx => wr_fire x)
theorem wr_fact {fuel : Nat} (hfu : 21 ≤ fuel) (x : S_api_Fact) (ha : wtL x.f1_Atom.ts ≤ 1000000000) : Wr S_snapshot_writer.mk (lf_Psnapshot_writer_fact_s1 fuel x) 15000 (eFact x) := by
  unfold lf_Psnapshot_writer_fact_s1
  exact ((wr_num x.f0_ID 0 2147483648).bind ((wr_atom hfu x.f1_Atom ha).bind (wr_nums x.f2_Just 64 64 (m := 64) (by omega)).last)).le (by omega)
theorem wr_applied (x : S_api_Applied) : Wr S_snapshot_writer.mk (lf_Psnapshot_writer_applied_s1 x) 1000 (eApplied x) := by
  have h := ((wr_num x.f0_Rule 0 40).bind ((wr_nums x.f1_Heads 4 2147483648 (m := 4) (by omega)).bind ((wr_nums x.f2_Gone 4 2147483648 (m := 4) (by omega)).bind ((wr_nums x.f3_Made 12 2147483648 (m := 12) (by omega)).bind ((wr_flag x.f4_Failed).bind (wr_nums x.f5_Just 64 64 (m := 64) (by omega)).last))))).le (M := 1000) (by omega)
  refine h.congr fun c => ?_
  unfold lf_Psnapshot_writer_applied_s1
  simp only [Option.bind_assoc, Option.bind_some]
theorem loop_s11 (k : S_snapshot_writer → Option S_snapshot_writer) (fuel : Nat) : ∀ l c, lf_snapshot_list_s11_L0 k fuel l c = (runW (lf_Psnapshot_writer_fact_s1 fuel) l c).bind k
  | [], c => rfl
  | x :: l, c => by
    rw [lf_snapshot_list_s11_L0, runW, Option.bind_assoc]
    congr 1
    funext r
    exact loop_s11 k fuel l r
theorem wr_list11 {fuel : Nat} (hfu : 21 ≤ fuel) (l : List S_api_Fact) (ha : ∀ x ∈ l, wtL x.f1_Atom.ts ≤ 1000000000) : Wr S_snapshot_writer.mk (lf_snapshot_list_s11 fuel l 5000) (10 + 5000 * 15000) (eList 5000 eFact l) := by
  unfold lf_snapshot_list_s11
  simp only [loop_s11, bind_some']
  exact wr_list (bad := S_snapshot_writer.f1_bad) (fun _ _ => rfl) (fun h => by omega) (wr_num _ 0 5000) (wr_run l fun x hx => wr_fact hfu x (ha x hx))
theorem loop_s12 (k : S_snapshot_writer → Option S_snapshot_writer) : ∀ l c, lf_snapshot_list_s12_L0 k l c = (runW (lf_Psnapshot_writer_applied_s1) l c).bind k
  | [], c => rfl
  | x :: l, c => by
    rw [lf_snapshot_list_s12_L0, runW, Option.bind_assoc]
    congr 1
    funext r
    exact loop_s12 k l r
theorem wr_list12 (l : List S_api_Applied) : Wr S_snapshot_writer.mk (lf_snapshot_list_s12 l 5000) (10 + 5000 * 1000) (eList 5000 eApplied l) := by
  unfold lf_snapshot_list_s12
  simp only [loop_s12, bind_some']
  exact wr_list (bad := S_snapshot_writer.f1_bad) (fun _ _ => rfl) (fun h => by omega) (wr_num _ 0 5000) (wr_run l fun x hx => wr_applied x)
/-- What is handed out at the end. -/
theorem out_of {f : S_snapshot_writer → Option S_snapshot_writer} {N : Nat} {r : Option (List Int)} (h : Wr S_snapshot_writer.mk f N r) (hN : N ≤ 1000000000) : ((f ⟨[], false⟩).bind fun c => lf_Psnapshot_writer_out_s1 c) = some (r.getD []) := by
  obtain ⟨b1, bad1, e1, l1, m1, o1⟩ := h [] false (by simpa using hN)
  rw [e1, Option.bind_some]
  have o1 := o1 rfl
  unfold lf_Psnapshot_writer_out_s1
  cases r with
  | none =>
    have o1 : bad1 = true := o1
    subst o1
    rfl
  | some e =>
    obtain ⟨rfl, rfl⟩ := o1
    simp
theorem len_of {f : S_snapshot_writer → Option S_snapshot_writer} {N : Nat} {r : Option (List Int)} (h : Wr S_snapshot_writer.mk f N r) (hN : N ≤ 999999999) (e : List Int) (he : r = some e) : e.length ≤ 999999999 := by
  subst he
  obtain ⟨b1, bad1, e1, l1, m1, o1⟩ := h [] false (by simp only [List.length_nil]; omega)
  obtain ⟨_, rfl⟩ := o1 rfl
  simp only [List.length_nil, List.nil_append] at l1
  omega
theorem wr_Program {fuel : Nat} (hfu : 21 ≤ fuel) (p : S_api_Program) (hd : ∀ x ∈ p.f0_Decls, x.f0_Name.size ≤ 2000) (hr : ∀ x ∈ p.f1_Rules, RuleS x) : lf_snapshot_Program fuel p = some ((eProgram p).getD []) := by
  have h := ((wr_num 1 1 1).bind ((wr_list1 p.f0_Decls hd).bind (wr_list2 hfu p.f1_Rules hr)))
  rw [← out_of (r := eProgram p) h (by omega)]
  unfold lf_snapshot_Program
  simp only [Option.bind_assoc, bind_some']
theorem len_Program {fuel : Nat} (hfu : 21 ≤ fuel) (p : S_api_Program) (hd : ∀ x ∈ p.f0_Decls, x.f0_Name.size ≤ 2000) (hr : ∀ x ∈ p.f1_Rules, RuleS x) : ∀ e, eProgram p = some e → e.length ≤ 999999999 := by
  have h := ((wr_num 1 1 1).bind ((wr_list1 p.f0_Decls hd).bind (wr_list2 hfu p.f1_Rules hr)))
  exact len_of (r := eProgram p) h (by omega)
/-- What is asked of a state: few nodes, not too many bindings. -/
structure ConfigS (c : S_api_Config) : Prop where
  k : ∀ x ∈ c.f0_Stack, wtL x.f0_Goal.ts ≤ 1000000000
  s : ∀ x ∈ c.f1_Store, wtL x.2.ts ≤ 1000000000
  b : ∀ x ∈ c.f2_Binds, wt x.2 ≤ 1000000000
  n : c.f2_Binds.length ≤ 50000
theorem wr_Config {fuel : Nat} (hfu : 21 ≤ fuel) (c : S_api_Config) (h : ConfigS c) : lf_snapshot_Config fuel c = some ((eConfig c).getD []) := by
  have hn := h.n
  have h := ((wr_num 2 2 2).bind ((wr_list6 hfu c.f0_Stack h.k).bind ((wr_list7 hfu c.f1_Store h.s).bind ((wr_list8 hfu c.f2_Binds h.b).bind ((wr_list9 c.f3_Fired).bind ((wr_num c.f4_Next 0 2147483648).bind ((wr_num c.f5_Fresh 0 1048576).bind (wr_flag c.f6_Failed))))))))
  rw [← out_of (r := eConfig c) h (by omega)]
  unfold lf_snapshot_Config
  simp only [Option.bind_assoc, bind_some', Option.bind_some]
theorem len_Config {fuel : Nat} (hfu : 21 ≤ fuel) (c : S_api_Config) (h : ConfigS c) : ∀ e, eConfig c = some e → e.length ≤ 999999999 := by
  have hn := h.n
  have h := ((wr_num 2 2 2).bind ((wr_list6 hfu c.f0_Stack h.k).bind ((wr_list7 hfu c.f1_Store h.s).bind ((wr_list8 hfu c.f2_Binds h.b).bind ((wr_list9 c.f3_Fired).bind ((wr_num c.f4_Next 0 2147483648).bind ((wr_num c.f5_Fresh 0 1048576).bind (wr_flag c.f6_Failed))))))))
  exact len_of (r := eConfig c) h (by omega)
theorem wr_Memory {fuel : Nat} (hfu : 21 ≤ fuel) (m : S_api_Memory) (h1 : ∀ x ∈ m.f0_Facts, wtL x.f1_Atom.ts ≤ 1000000000) (h2 : ∀ x ∈ m.f1_Past, wtL x.f1_Atom.ts ≤ 1000000000) : lf_snapshot_Memory fuel m = some ((eMemory m).getD []) := by
  have h := ((wr_num 3 3 3).bind ((wr_list11 hfu m.f0_Facts h1).bind ((wr_list11 hfu m.f1_Past h2).bind ((wr_list12 m.f2_Log).bind ((wr_num m.f3_Next 0 2147483648).bind (wr_num m.f4_Given 0 64))))))
  rw [← out_of (r := eMemory m) h (by omega)]
  unfold lf_snapshot_Memory
  simp only [Option.bind_assoc, bind_some']
end Go.Proofs.YtdoljfkjdfaakaaGreat


namespace Go.Proofs.YtdoljfkjdfaakaaGreat
set_option maxRecDepth 100000
open Go.RowKit


/-! ### The reference -/
section
variable {W α : Type} {mk : List Int → Bool → W} {bad : W → Bool} {put : α → W → Option W}
end
theorem formL_mem {t : T} : ∀ {l : List T}, formL l = true → t ∈ l → formT t = true
  | x :: l, hf, h => by
    simp only [formL, Bool.and_eq_true] at hf
    rcases List.mem_cons.1 h with rfl | h
    · exact hf.1
    · exact formL_mem hf.2 h
end Go.Proofs.YtdoljfkjdfaakaaGreat


namespace Go.Proofs.YtdoljfkjdfaakaaGreat
set_option maxRecDepth 100000
open Go.RowKit

/-- No beginning of an integer's bytes is an integer: it is too short. -/
theorem rawM_cut : ∀ (f k u : Nat) (l r : List UInt8), u ≤ f → u * 128 ^ k < 18446744073709551616 → k ≤ 9 → r ≠ [] → enc u = l ++ r → rawM k l = (0, 0, 4)
  | _, _, _, [], _, _, _, _, _, _ => rfl
  | f, k, u, c :: l, r, hf, hu, hk, hr, he => by
    rcases Nat.lt_or_ge u 128 with h | h
    · rw [enc_small h] at he
      simp only [List.cons_append, List.cons.injEq] at he
      have := he.2
      cases l with
      | nil => exact absurd this.symm hr
      | cons => simp at this
    · rw [enc_big h] at he
      simp only [List.cons_append, List.cons.injEq] at he
      obtain ⟨rfl, he⟩ := he
      have hc : (UInt8.ofNat (u % 128 + 128)).toNat = u % 128 + 128 := by
        simp only [UInt8.toNat_ofNat']
        omega
      have hk9 : k < 9 := by
        rcases Nat.lt_or_ge k 9 with h9 | h9
        · exact h9
        · have : k = 9 := by omega
          subst this
          omega
      cases f with
      | zero => omega
      | succ f =>
        have h1 : u / 128 * 128 ^ (k + 1) < 18446744073709551616 := by
          have : u / 128 * 128 ^ (k + 1) = (u / 128 * 128) * 128 ^ k := by rw [Nat.pow_succ, Nat.mul_assoc, Nat.mul_comm 128]
          rw [this]
          exact Nat.lt_of_le_of_lt (Nat.mul_le_mul_right _ (Nat.div_mul_le_self u 128)) hu
        have ih := rawM_cut f (k + 1) (u / 128) l r (by omega) h1 (by omega) hr he
        rw [rawM_cons, hc, if_neg (by omega), if_neg (by omega), ih]
        rfl
theorem ofY_app (l m : List Int) : ofY (l ++ m) = ofY l ++ ofY m := List.map_append
theorem drop_ofY (a b : List Int) : (ofY (a ++ b)).drop a.length = ofY b := by
  rw [ofY_app, ← len_ofY a, List.drop_left]
theorem zig64 {n : Int} (h1 : -9223372036854775808 ≤ n) (h2 : n < 9223372036854775808) : zig n * 128 ^ 0 < 18446744073709551616 := by
  have := zig_lt h1 h2
  omega
theorem intM_in {n lo hi : Int} (hl : lo ≤ n) (hh : n ≤ hi) (h1 : -9223372036854775808 ≤ n) (h2 : n < 9223372036854775808) (a z : List Int) : intM (ofY (a ++ encN n ++ z)) (a.length : Int) lo hi = (n, ((a ++ encN n).length : Int), 0) := by
  have e : (rawM 0 ((ofY (a ++ encN n ++ z)).drop (a.length : Int).toNat)) = (zig n, (enc (zig n)).length, 0) := by
    rw [Int.toNat_natCast, List.append_assoc, drop_ofY, ofY_app, encN_eq h1 h2, ofY_toY]
    exact rawM_of 0 (zig n) _ (zig64 h1 h2) (by omega) (by omega)
  have hlen : (encN n).length = (enc (zig n)).length := by rw [encN_eq h1 h2, len_toY]
  unfold intM
  rw [e, if_neg (by rw [len_ofY]; simp only [List.length_append]; omega), if_neg (by simp), if_neg (by rw [zag_zig]; omega), zag_zig]
  simp only [List.length_append, hlen]
  simp
theorem intM_cut {n lo hi : Int} (hl : lo ≤ n) (hh : n ≤ hi) (h1 : -9223372036854775808 ≤ n) (h2 : n < 9223372036854775808) (a t z : List Int) (hz : z ≠ []) (he : encN n = t ++ z) : intM (ofY (a ++ t)) (a.length : Int) lo hi = (0, 0, 4) := by
  have e : (rawM 0 ((ofY (a ++ t)).drop (a.length : Int).toNat)) = (0, 0, 4) := by
    rw [Int.toNat_natCast, drop_ofY]
    refine rawM_cut (zig n) 0 (zig n) (ofY t) (ofY z) (Nat.le_refl _) (zig64 h1 h2) (by omega) (fun h => hz ?_) ?_
    · have := congrArg List.length h
      rw [len_ofY] at this
      exact List.eq_nil_of_length_eq_zero (by simpa using this)
    · rw [← ofY_app, ← he, encN_eq h1 h2, ofY_toY]
  unfold intM
  rw [e, if_neg (by rw [len_ofY]; simp only [List.length_append]; omega), if_pos (by simp)]
  rfl

/-! ### readers -/
abbrev RR := S_snapshot_reader
/-- It takes x out of the bytes e, and says of a beginning of them that it is too short. -/
def Rdr {α : Type} (f : RR → Option (Int ⊕ (α × RR))) (e : List Int) (x : α) : Prop :=
  (∀ a z : List Int, (a ++ e ++ z).length ≤ 1000000000 → f ⟨a ++ e ++ z, (a.length : Int)⟩ = some (.inr (x, ⟨a ++ e ++ z, ((a ++ e).length : Int)⟩))) ∧
  (∀ a t z : List Int, (a ++ t).length ≤ 1000000000 → z ≠ [] → e = t ++ z → f ⟨a ++ t, (a.length : Int)⟩ = some (.inl 4))
def RdO {α : Type} (f : RR → Option (Int ⊕ (α × RR))) (r : Option (List Int)) (x : α) : Prop := ∀ e, r = some e → Rdr f e x
section
variable {α β : Type} {f : RR → Option (Int ⊕ (α × RR))} {G : α × RR → Option (Int ⊕ (β × RR))} {x : α} {y : β} {e e' : List Int} {r s : Option (List Int)}
theorem Rdr.pure : Rdr (fun c => some (.inr (x, c))) [] x := by
  refine ⟨fun a z _ => by simp, fun a t z _ hz he => ?_⟩
  have := congrArg List.length he
  simp only [List.length_nil, List.length_append] at this
  exact absurd (List.eq_nil_of_length_eq_zero (by omega)) hz
theorem Rdr.bind (hf : Rdr f e x) (hg : Rdr (fun c => G (x, c)) e' y) : Rdr (fun c => bindX (f c) G) (e ++ e') y := by
  constructor
  · intro a z hl
    have h1 := hf.1 a (e' ++ z) (by simpa only [List.append_assoc] using hl)
    have h2 := hg.1 (a ++ e) z (by simpa only [List.append_assoc] using hl)
    simp only [List.append_assoc] at h1 h2 ⊢
    rw [h1]
    exact h2
  · intro a t z hl hz ht
    rcases List.append_eq_append_iff.1 ht with ⟨a', rfl, h2⟩ | ⟨c', rfl, h2⟩
    · have h1 := hf.1 a a' (by simpa only [List.append_assoc] using hl)
      have h3 := hg.2 (a ++ e) a' z (by simpa only [List.append_assoc] using hl) hz h2
      simp only [List.append_assoc] at h1 h3 ⊢
      rw [h1]
      exact h3
    · by_cases hc : c' = []
      · subst hc
        have h1 := hf.1 a [] (by simpa using hl)
        have h3 := hg.2 (a ++ t) [] e' (by simpa using hl) (by rw [List.nil_append] at h2; rw [← h2]; exact hz) rfl
        simp only [List.append_nil] at h1 h3
        show bindX (f _) G = _
        rw [h1]
        exact h3
      · show bindX (f _) G = _
        rw [hf.2 a t c' hl hc rfl]
        rfl
theorem Rdr.congr {g : RR → Option (Int ⊕ (α × RR))} (h : Rdr f e x) (hc : ∀ c, f c = g c) : Rdr g e x := by
  have : f = g := funext hc
  subst this
  exact h
theorem RdO.congr {g : RR → Option (Int ⊕ (α × RR))} (h : RdO f r x) (hc : ∀ c, f c = g c) : RdO g r x := fun e he => (h e he).congr hc
theorem RdO.bind (hf : RdO f r x) (hg : RdO (fun c => G (x, c)) s y) : RdO (fun c => bindX (f c) G) (catO r s) y := fun e he => by
  obtain ⟨a, b, h1, h2, rfl⟩ := catO_some he
  exact (hf a h1).bind (hg b h2)
theorem RdO.last (hf : RdO f r x) (hg : ∀ c, G (x, c) = some (.inr (y, c))) : RdO (fun c => bindX (f c) G) r y := fun e he => by
  have := (hf e he).bind (G := G) ((Rdr.pure (x := y)).congr fun c => (hg c).symm)
  rwa [List.append_nil] at this
theorem RdO.eq (h : RdO f r x) (he : r = s) : RdO f s x := he ▸ h
end
theorem bindX_ok {α β : Type} (a : α) (f : α → Option (Int ⊕ β)) : bindX (some (.inr a)) f = f a := rfl
theorem bindX_assoc {α β γ : Type} (x : Option (Int ⊕ α)) (f : α → Option (Int ⊕ β)) (g : β → Option (Int ⊕ γ)) : bindX (bindX x f) g = bindX x fun a => bindX (f a) g := by
  cases x with
  | none => rfl
  | some s => cases s <;> rfl
theorem rd_num {lo hi n : Int} (h1 : -9223372036854775808 ≤ lo) (h2 : hi < 9223372036854775808) : RdO (lf_Psnapshot_reader_number_s1 lo hi) (eNum lo hi n) n := fun e he => by
  unfold eNum at he
  split at he
  · rename_i h
    obtain rfl := Option.some.inj he
    refine ⟨fun a z hl => ?_, fun a t z hl hz ht => ?_⟩
    · have hx : x_cInt (a ++ encN n ++ z) (a.length : Int) lo hi = some (n, ((a ++ encN n).length : Int), 0) := by
        rw [x_cInt, if_pos hl, intM_in h.1 h.2 (by omega) (by omega)]
      unfold lf_Psnapshot_reader_number_s1
      simp only [hx, Option.bind_some]
      rfl
    · have hx : x_cInt (a ++ t) (a.length : Int) lo hi = some (0, 0, 4) := by
        rw [x_cInt, if_pos hl, intM_cut h.1 h.2 (by omega) (by omega) a t z hz ht]
      unfold lf_Psnapshot_reader_number_s1
      simp only [hx, Option.bind_some]
      rfl
  · cases he
theorem strB (s : ByteArray) : (⟨(s.data.toList).toArray⟩ : ByteArray) = s := by
  cases s
  rfl
theorem rd_text (s : ByteArray) : RdO lf_Psnapshot_reader_text_s1 (eText s) s := fun e he => by
  unfold eText at he
  split at he
  · rename_i h
    obtain rfl := Option.some.inj he
    have hs : s.data.toList.length = s.size := Array.length_toList
    refine ⟨fun a z hl => ?_, fun a t z hl hz ht => ?_⟩
    · have hI := intM_in (n := (s.size : Int)) (lo := 0) (hi := 40) (by omega) (by omega) (by omega) (by omega) a (toY s.data.toList ++ z)
      have hx : x_cText (a ++ (encN s.size ++ toY s.data.toList) ++ z) (a.length : Int) 40 = some (s, ((a ++ (encN s.size ++ toY s.data.toList)).length : Int), 0) := by
        have hI' : intM (ofY (a ++ (encN s.size ++ toY s.data.toList) ++ z)) (a.length : Int) 0 40 = ((s.size : Int), ((a ++ encN s.size).length : Int), 0) := by
          simpa only [List.append_assoc] using hI
        have hd : (ofY (a ++ (encN s.size ++ toY s.data.toList) ++ z)).drop (a ++ encN (s.size : Int)).length = s.data.toList ++ ofY z := by
          have : a ++ (encN s.size ++ toY s.data.toList) ++ z = (a ++ encN s.size) ++ (toY s.data.toList ++ z) := by simp only [List.append_assoc]
          rw [this, drop_ofY, ofY_app, ofY_toY]
        have ht : textM (ofY (a ++ (encN s.size ++ toY s.data.toList) ++ z)) (a.length : Int) 40 = (s.data.toList, ((a ++ (encN s.size ++ toY s.data.toList)).length : Int), 0) := by
          unfold textM
          rw [hI', if_neg (by omega), if_neg (by simp), if_neg (by rw [len_ofY]; simp only [List.length_append, len_toY, hs]; omega)]
          simp only [Int.toNat_natCast, hd]
          rw [← hs, List.take_left]
          simp only [List.length_append, len_toY, hs]
          congr 2
          omega
        rw [x_cText, if_pos hl, ht, strB]
      unfold lf_Psnapshot_reader_text_s1
      simp only [hx, Option.bind_some]
      rfl
    · have hx : ∃ s', x_cText (a ++ t) (a.length : Int) 40 = some (s', 0, 4) := by
        rw [x_cText, if_pos hl]
        rcases List.append_eq_append_iff.1 ht with ⟨a', rfl, h2⟩ | ⟨c', h1, h2⟩
        · have hI := intM_in (n := (s.size : Int)) (lo := 0) (hi := 40) (by omega) (by omega) (by omega) (by omega) a a'
          have hlt : a'.length < s.size := by
            have := congrArg List.length h2
            rw [len_toY, hs, List.length_append] at this
            have : 0 < z.length := List.length_pos_iff.2 hz
            omega
          have ht : textM (ofY (a ++ (encN s.size ++ a'))) (a.length : Int) 40 = ([], 0, 4) := by
            unfold textM
            rw [← List.append_assoc, hI, if_neg (by omega), if_neg (by simp), if_pos (by rw [len_ofY]; simp only [List.length_append]; omega)]
          rw [ht]
          exact ⟨_, rfl⟩
        · by_cases hc : c' = []
          · subst hc
            rw [List.append_nil] at h1
            subst h1
            have hI := intM_in (n := (s.size : Int)) (lo := 0) (hi := 40) (by omega) (by omega) (by omega) (by omega) a []
            rw [List.append_nil] at hI
            have hlt : 0 < s.size := by
              rw [List.nil_append] at h2
              have := congrArg List.length h2
              rw [len_toY, hs] at this
              have : 0 < z.length := List.length_pos_iff.2 hz
              omega
            have ht : textM (ofY (a ++ encN s.size)) (a.length : Int) 40 = ([], 0, 4) := by
              unfold textM
              rw [hI, if_neg (by omega), if_neg (by simp), if_pos (by rw [len_ofY]; dsimp only; omega)]
            rw [ht]
            exact ⟨_, rfl⟩
          · have hI := intM_cut (n := (s.size : Int)) (lo := 0) (hi := 40) (by omega) (by omega) (by omega) (by omega) a t c' hc h1
            have ht : textM (ofY (a ++ t)) (a.length : Int) 40 = ([], 0, 4) := by
              unfold textM
              rw [hI, if_neg (by omega), if_pos (by simp)]
            rw [ht]
            exact ⟨_, rfl⟩
      obtain ⟨s', hx⟩ := hx
      unfold lf_Psnapshot_reader_text_s1
      simp only [hx, Option.bind_some]
      rfl
  · cases he
theorem rd_flag (x : Bool) : RdO lf_Psnapshot_reader_flag_s1 (eBool x) x := fun e he => by
  obtain rfl := Option.some.inj he
  refine ⟨fun a z hl => ?_, fun a t z hl hz ht => ?_⟩
  · have hg : getI (a ++ [bif x then 1 else 0] ++ z) (a.length : Int) = some (bif x then 1 else 0) := by
      rw [getI_nat]
      simp
    have hx : lf_codec_Bool (a ++ [bif x then 1 else 0] ++ z) (a.length : Int) = some (x, ((a ++ [bif x then (1 : Int) else 0]).length : Int), 0) := by
      have h1 : decide ((a.length : Int) < 0) = false := decide_eq_false (by omega)
      have h2 : decide ((a.length : Int) > ((a ++ [bif x then (1 : Int) else 0] ++ z).length : Int)) = false := decide_eq_false (by simp only [List.length_append]; omega)
      have h3 : ((a.length : Int) == ((a ++ [bif x then (1 : Int) else 0] ++ z).length : Int)) = false := by
        rw [beq_eq_false_iff_ne]
        simp only [List.length_append, List.length_singleton]
        omega
      unfold lf_codec_Bool
      rw [h1, h2, h3, hg]
      have h4 : wr ((a.length : Int) + 1) = ((a ++ [bif x then (1 : Int) else 0]).length : Int) := by
        rw [wr_eq (by simp only [List.length_append] at hl; omega)]
        simp
      cases x <;> simp [h4] <;> simpa using h4
    unfold lf_Psnapshot_reader_flag_s1
    simp only [hx, Option.bind_some]
    rfl
  · have h0 : t = [] := by
      cases t with
      | nil => rfl
      | cons y t =>
        have := congrArg List.length ht
        simp at this
        exact absurd this.2 hz
    subst h0
    have hx : lf_codec_Bool (a ++ []) (a.length : Int) = some (false, 0, 4) := by
      have h1 : decide ((a.length : Int) < 0) = false := decide_eq_false (by omega)
      have h2 : decide ((a.length : Int) > ((a ++ ([] : List Int)).length : Int)) = false := decide_eq_false (by simp)
      have h3 : ((a.length : Int) == ((a ++ ([] : List Int)).length : Int)) = true := by simp
      unfold lf_codec_Bool
      rw [h1, h2, h3]
      rfl
    unfold lf_Psnapshot_reader_flag_s1
    simp only [hx, Option.bind_some]
    rfl
/-- A list, one by one. -/
def runT {α : Type} (one : RR → Option (Int ⊕ (α × RR))) (sz : Nat) : Nat → List α → RR → Option (Int ⊕ (List α × RR))
  | 0, out, c => some (.inr (out, c))
  | n + 1, out, c => bindX (one c) fun q => (appO sz out [q.1]).bind fun l => runT one sz n l q.2
theorem rd_run {α : Type} {one : RR → Option (Int ⊕ (α × RR))} {sz : Nat} (hsz : sz ≤ 1000) {e : α → Option (List Int)} : ∀ (l out : List α), (∀ x ∈ l, RdO one (e x) x) → out.length + l.length ≤ 10000000 → RdO (runT one sz l.length out) (eCat e l) (out ++ l)
  | [], out, _, _ => fun e he => by
    obtain rfl := Option.some.inj he
    rw [List.append_nil]
    exact Rdr.pure
  | x :: l, out, h, hl => by
    have ih := rd_run hsz (one := one) (e := e) l (out ++ [x]) (fun y hy => h y (by simp [hy])) (by simp only [List.length_append, List.length_cons, List.length_nil] at hl ⊢; omega)
    rw [List.append_assoc, List.singleton_append] at ih
    refine RdO.bind (h x (by simp)) (G := fun q => (appO sz out [q.1]).bind fun l_ => runT one sz l.length l_ q.2) (ih.congr fun c => ?_)
    have : appO sz out [x] = some (out ++ [x]) := by
      have : (out.length + [x].length) * sz ≤ 10000000 * 1000 := Nat.mul_le_mul (by simp only [List.length_cons, List.length_nil] at hl ⊢; omega) hsz
      exact appO_eq (by omega) (by simp only [List.length_cons, List.length_nil] at hl ⊢; omega)
    show _ = (appO sz out [x]).bind _
    rw [this]
    rfl
theorem rd_take {α : Type} {one : RR → Option (Int ⊕ (α × RR))} {sz : Nat} (hsz : sz ≤ 1000) {e : α → Option (List Int)} {most : Int} (hm : most ≤ 10000000) {l : List α} (h : ∀ x ∈ l, RdO one (e x) x) : RdO (fun c => bindX (lf_Psnapshot_reader_number_s1 0 most c) fun r => runT one sz (r.1 - 0 : Int).toNat [] r.2) (eList most e l) l := by
  intro E hE
  obtain ⟨a, b, h1, h2, rfl⟩ := catO_some hE
  have hl : (l.length : Int) ≤ most := by
    unfold eNum at h1
    split at h1
    · rename_i h
      exact h.2
    · cases h1
  have hr := rd_run hsz l [] h (by simp only [List.length_nil]; omega)
  rw [List.nil_append] at hr
  refine Rdr.bind (rd_num (by omega) (by omega) a h1) (G := fun r => runT one sz (r.1 - 0 : Int).toNat [] r.2) ((hr b h2).congr fun c => ?_)
  show _ = runT one sz ((l.length : Int) - 0).toNat [] c
  rw [Int.sub_zero, Int.toNat_natCast]
end Go.Proofs.YtdoljfkjdfaakaaGreat

