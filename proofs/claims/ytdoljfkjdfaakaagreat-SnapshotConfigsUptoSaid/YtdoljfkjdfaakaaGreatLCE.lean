/-
  Texts of the seat, merged.
-/
import Derived.Test.YtdoljfkjdfaakaaGreatLCA
import Derived.Test.YtdoljfkjdfaakaaGreatLCB
import Derived.Test.YtdoljfkjdfaakaaGreatLCC
import Derived.Test.YtdoljfkjdfaakaaGreatLCD
import Derived.Test.YtdoljfkjdfaakaaGreatChecked
import Derived.WalkKit
import Derived.Lib.Hide
import Derived.Lib.AppendStr
import Derived.Deep.AppendLies
import Derived.Deep.AppendSrc
import Derived.Deep.Draws
import Derived.Deep.QuietTactic
import Derived.BigQuiet
import Derived.Deep.RegionWith
import Derived.Maps.AppendAt
import Derived.WalkSpells
import Derived.Orders
import Derived.Deep.Slices
import Derived.Deep.Fields
import Derived.ChangeArms
import Derived.Lib.OthersKept
import Derived.Lib.TrimU
import Derived.Lib.IndexAny
import Derived.Deep.LoopGhost
import Derived.Lib.Bytealg
import Derived.RangeFuncBox
import Derived.RangeFuncNested
import Derived.RangeFuncBound
import Derived.RangeFuncCalls
import Derived.RangeFuncLeaves
import Derived.Shelf.Abstract
import Derived.OwnWalkIn
import Derived.TacticsInMore
import Derived.LoopNIn
import Derived.LoopIn
import Derived.RangeFuncWrites
import Derived.Maps.OwnIn
import Derived.Maps.Views
import Derived.Laws.OwnMore
import Derived.Maps.OwnSet
import Derived.Laws.IdiomStrings
import Derived.Test.YtdoljfkjdfaakaaGreatRows
import Derived.ProofKit
import Derived.OpenShut
import Derived.Carry
import Derived.OrdersIn
import Derived.Great.BuildSlice
import Derived.ArgAppend
import Derived.Laws.MakeOwn
import Derived.Laws.Cover3
import Derived.Laws.CopyRow
import Derived.MapKept
import Derived.Maps.RangeRun
import Derived.DeepKeys5
import Derived.WideKeyRuns
import Derived.RangeFuncOwn
import Derived.Defers
import Derived.Recover
import Derived.Tactics
import Derived.Tactics2
set_option linter.unusedVariables false
set_option linter.unusedSimpArgs false
set_option linter.unnecessarySimpa false
set_option linter.all false

namespace Go.Proofs.YtdoljfkjdfaakaaGreat
set_option maxRecDepth 100000
open Go.RowKit

structure S_snapshot_reader where
  f0_b : (List Int)
  f1_at : Int

def enc_S_snapshot_reader (x : S_snapshot_reader) : D := .agg [.lst (x.f0_b.map (D.int .u8)), .int .i64 x.f1_at]

noncomputable def lf_Psnapshot_reader_done_s1 (next_a1 : Int) (e_a2 : Int) (c_0 : S_snapshot_reader) : Option (Int ⊕ (S_snapshot_reader)) :=
  (bif (e_a2 != (0 : Int)) then
  some (.inl e_a2)
  else
  some (.inr ((⟨c_0.f0_b, next_a1⟩ : S_snapshot_reader))))

set_option maxHeartbeats 1000000 in
theorem lg_Psnapshot_reader_done_s1 (next_a1 : Int) (e_a2 : Int) (c_0 : S_snapshot_reader) (b_o0 : Nat) (res : Int ⊕ (S_snapshot_reader)) (hr : lf_Psnapshot_reader_done_s1 next_a1 e_a2 c_0 = some res) : SpecX Tryz.prog 141 [.ref b_o0 0 [], .int .i64 next_a1, .int .i64 e_a2] [.cell b_o0 (enc_S_snapshot_reader c_0)] (fun d σ => ∃ r : S_snapshot_reader, res = .inr r ∧ d = .tup [] ∧ σ = [.cell b_o0 (enc_S_snapshot_reader r)]) (fun d => ∃ c, res = .inl c ∧ d = .ifc 191 (.agg [.int .i64 c])) := by
  unfold lf_Psnapshot_reader_done_s1 at hr
  refine spec_envX [(0, .ref b_o0 0 []), (1, .int .i64 next_a1), (2, .int .i64 e_a2)] Tryz.func141 rfl rfl fun K hK hX => ?_
  refine g_seq ?_
  refine g_seq ?_
  refine g_run (by kernel_rfl) [(0, .d), (1, .d)] rfl ?_
  refine r_d rfl rfl rfl (s_move rfl rfl) ?_
  refine r_d rfl rfl rfl (s_cmp rfl rfl rfl rfl) ?_
  refine r_end ?_
  refine g_sB 7 rfl hr (fun h7_0 hr => ?_) (fun h7_0 hr => ?_)
  ·
   refine g_condT rfl ?_
   refine g_run (by kernel_rfl) [(0, .d), (1, .d), (2, .d), (3, .w)] rfl ?_
   refine r_d rfl rfl rfl (s_move rfl rfl) ?_
   refine r_d rfl rfl rfl (s_build rfl bt_snapshot_failure (.cons rfl (Wk.refl _) .nil) (.cons rfl rfl rfl (.nil _))) ?_
   refine r_d rfl rfl rfl (s_makeIfc rfl Tryz.underlying191 rfl) ?_
   obtain rfl := Option.some.inj hr
   refine r_die rfl rfl (s_panic rfl rfl) (hX _ ⟨_, rfl, rfl⟩)
  ·
   refine g_condF rfl ?_
   refine g_skip ?_
   refine g_run (by kernel_rfl) [(0, .d), (1, .d), (2, .d), (3, .d), (4, .w)] rfl ?_
   refine r_d rfl rfl rfl (s_move rfl rfl) ?_
   refine r_d rfl rfl rfl (s_move rfl rfl) ?_
   refine r_d rfl rfl rfl (s_nilCheckR rfl rfl) ?_
   refine r_d rfl rfl rfl (s_fieldRef rfl fl_snapshot_reader_1 rfl) ?_
   refine r_w01 rfl rfl rfl (t_store _ rfl rfl rfl (Wk.refl _) (pf0 _) rfl rfl (by exact ty_int) rfl rfl rfl) ?_
   refine r_end ?_
   obtain rfl := Option.some.inj hr
   refine g_end Tryz.func141 _ .nil ?_
   exact ⟨_, rfl, rfl, rfl⟩

noncomputable def lf_Psnapshot_reader_number_s1 (low_a1 : Int) (high_a2 : Int) (c_0 : S_snapshot_reader) : Option (Int ⊕ (Int × S_snapshot_reader)) :=
  ((x_cInt c_0.f0_b c_0.f1_at low_a1 high_a2).bind fun r_1 =>
  (bindX (lf_Psnapshot_reader_done_s1 r_1.2.1 r_1.2.2 c_0) fun r_2 =>
  some (.inr (r_1.1, r_2))))

set_option maxHeartbeats 1000000 in
theorem lg_Psnapshot_reader_number_s1 (low_a1 : Int) (high_a2 : Int) (c_0 : S_snapshot_reader) (b_o0 : Nat) (res : Int ⊕ (Int × S_snapshot_reader)) (hr : lf_Psnapshot_reader_number_s1 low_a1 high_a2 c_0 = some res) : SpecX Tryz.prog 51 [.ref b_o0 0 [], .int .i64 low_a1, .int .i64 high_a2] [.cell b_o0 (enc_S_snapshot_reader c_0)] (fun d σ => ∃ r : Int × S_snapshot_reader, res = .inr r ∧ d = .int .i64 r.1 ∧ σ = [.cell b_o0 (enc_S_snapshot_reader r.2)]) (fun d => ∃ c, res = .inl c ∧ d = .ifc 191 (.agg [.int .i64 c])) := by
  unfold lf_Psnapshot_reader_number_s1 at hr
  refine spec_envX [(0, .ref b_o0 0 []), (1, .int .i64 low_a1), (2, .int .i64 high_a2)] Tryz.func51 rfl rfl fun K hK hX => ?_
  refine g_seq ?_
  refine g_run (by kernel_rfl) [(0, .d)] rfl ?_
  refine r_d rfl rfl rfl (s_assign rfl rfl) ?_
  refine r_end ?_
  refine g_seq ?_
  refine g_anyX (by kernel_rfl) (by kernel_rfl) [(0, .d), (1, .d), (2, .d), (3, .r), (4, .d), (5, .d), (6, .d), (7, .r), (8, .d), (9, .d), (10, .d), (11, .d), (12, .d), (13, .d), (14, .d), (15, .d), (16, .d), (17, .d)] (by kernel_rfl) ?_
  refine r_d rfl rfl rfl (s_move rfl rfl) ?_
  refine r_d rfl rfl rfl (s_nilCheckR rfl rfl) ?_
  refine r_d rfl rfl rfl (s_fieldRef rfl fl_snapshot_reader_0 rfl) ?_
  refine r_r rfl rfl rfl (t_loadRef rfl rfl (.head _) rfl rfl (by exact ty_L_uint8) rfl) ?_
  refine r_d rfl rfl rfl (s_move rfl rfl) ?_
  refine r_d rfl rfl rfl (s_nilCheckR rfl rfl) ?_
  refine r_d rfl rfl rfl (s_fieldRef rfl fl_snapshot_reader_1 rfl) ?_
  refine r_r rfl rfl rfl (t_loadRef rfl rfl (.head _) rfl rfl (by exact ty_int) rfl) ?_
  refine r_d rfl rfl rfl (s_move rfl rfl) ?_
  refine r_d rfl rfl rfl (s_move rfl rfl) ?_
  obtain ⟨r_1, hr_1, hr⟩ := bindS hr
  refine r_d rfl rfl rfl (s_callD rfl cl_codec_Int (.cons rfl (Wk.refl _) (.cons rfl (Wk.refl _) (.cons rfl (Wk.refl _) (.cons rfl (Wk.refl _) .nil)))) (lx_codec_Int _ _ _ _ _ hr_1)) ?_
  refine r_d rfl rfl rfl (s_move rfl rfl) ?_
  refine r_d rfl rfl rfl (s_extract rfl rfl rfl) ?_
  refine r_d rfl rfl rfl (s_extract rfl rfl rfl) ?_
  refine r_d rfl rfl rfl (s_extract rfl rfl rfl) ?_
  refine r_d rfl rfl rfl (s_assign rfl rfl) ?_
  refine r_d rfl rfl rfl (s_assign rfl rfl) ?_
  refine r_d rfl rfl rfl (s_assign rfl rfl) ?_
  refine r_end ?_
  refine g_seq ?_
  refine g_run (by kernel_rfl) [(0, .d), (1, .d), (2, .d), (3, .w)] rfl ?_
  refine r_d rfl rfl rfl (s_move rfl rfl) ?_
  refine r_d rfl rfl rfl (s_move rfl rfl) ?_
  refine r_d rfl rfl rfl (s_move rfl rfl) ?_
  rcases bindXS hr with ⟨c_r_2, hr_2, rfl⟩ | ⟨r_2, hr_2, hr⟩
  ·
   refine r_die rfl rfl (s_callX _ rfl cl_Psnapshot_reader_done (.cons rfl (Wk.refl _) (.cons rfl (Wk.refl _) (.cons rfl (Wk.refl _) .nil))) (by exact (pf0 _)) (specX_inl (lg_Psnapshot_reader_done_s1 _ _ _ _ _ hr_2))) (hX _ ⟨_, rfl, rfl⟩)
  ·
   refine r_w rfl rfl rfl (s_call _ rfl cl_Psnapshot_reader_done (.cons rfl (Wk.refl _) (.cons rfl (Wk.refl _) (.cons rfl (Wk.refl _) .nil))) (by exact (pf0 _)) (specX_inr (lg_Psnapshot_reader_done_s1 _ _ _ _ _ hr_2))) ?_
   rintro _ _ ⟨_, ⟨rfl, rfl⟩, rfl⟩
   refine r_st ((.cell b_o0 (enc_S_snapshot_reader r_2)) :: _) rfl ?_
   refine r_end ?_
   refine g_seq ?_
   refine g_run (by kernel_rfl) [(0, .d), (1, .d)] rfl ?_
   refine r_d rfl rfl rfl (s_move rfl rfl) ?_
   refine r_d rfl rfl rfl (s_assign rfl rfl) ?_
   refine r_end ?_
   obtain rfl := Option.some.inj hr
   refine g_ret Tryz.func51 _ (.cons (resTmp rfl (Wk.refl _)) .nil) ?_
   exact ⟨_, rfl, rfl, rfl⟩

noncomputable def lf_Psnapshot_reader_text_s1 (c_0 : S_snapshot_reader) : Option (Int ⊕ (ByteArray × S_snapshot_reader)) :=
  ((x_cText c_0.f0_b c_0.f1_at 40).bind fun r_1 =>
  (bindX (lf_Psnapshot_reader_done_s1 r_1.2.1 r_1.2.2 c_0) fun r_2 =>
  some (.inr (r_1.1, r_2))))

set_option maxHeartbeats 1000000 in
theorem lg_Psnapshot_reader_text_s1 (c_0 : S_snapshot_reader) (b_o0 : Nat) (res : Int ⊕ (ByteArray × S_snapshot_reader)) (hr : lf_Psnapshot_reader_text_s1 c_0 = some res) : SpecX Tryz.prog 50 [.ref b_o0 0 []] [.cell b_o0 (enc_S_snapshot_reader c_0)] (fun d σ => ∃ r : ByteArray × S_snapshot_reader, res = .inr r ∧ d = .str r.1 ∧ σ = [.cell b_o0 (enc_S_snapshot_reader r.2)]) (fun d => ∃ c, res = .inl c ∧ d = .ifc 191 (.agg [.int .i64 c])) := by
  unfold lf_Psnapshot_reader_text_s1 at hr
  refine spec_envX [(0, .ref b_o0 0 [])] Tryz.func50 rfl rfl fun K hK hX => ?_
  refine g_seq ?_
  refine g_run (by kernel_rfl) [(0, .d)] rfl ?_
  refine r_d rfl rfl rfl (s_assign rfl rfl) ?_
  refine r_end ?_
  refine g_seq ?_
  refine g_anyX (by kernel_rfl) (by kernel_rfl) [(0, .d), (1, .d), (2, .d), (3, .r), (4, .d), (5, .d), (6, .d), (7, .r), (8, .d), (9, .d), (10, .d), (11, .d), (12, .d), (13, .d), (14, .d), (15, .d)] (by kernel_rfl) ?_
  refine r_d rfl rfl rfl (s_move rfl rfl) ?_
  refine r_d rfl rfl rfl (s_nilCheckR rfl rfl) ?_
  refine r_d rfl rfl rfl (s_fieldRef rfl fl_snapshot_reader_0 rfl) ?_
  refine r_r rfl rfl rfl (t_loadRef rfl rfl (.head _) rfl rfl (by exact ty_L_uint8) rfl) ?_
  refine r_d rfl rfl rfl (s_move rfl rfl) ?_
  refine r_d rfl rfl rfl (s_nilCheckR rfl rfl) ?_
  refine r_d rfl rfl rfl (s_fieldRef rfl fl_snapshot_reader_1 rfl) ?_
  refine r_r rfl rfl rfl (t_loadRef rfl rfl (.head _) rfl rfl (by exact ty_int) rfl) ?_
  obtain ⟨r_1, hr_1, hr⟩ := bindS hr
  refine r_d rfl rfl rfl (s_callD rfl cl_codec_Text (.cons rfl (Wk.refl _) (.cons rfl (Wk.refl _) (.cons rfl (Wk.refl _) .nil))) (lx_codec_Text _ _ _ _ hr_1)) ?_
  refine r_d rfl rfl rfl (s_move rfl rfl) ?_
  refine r_d rfl rfl rfl (s_extract rfl rfl rfl) ?_
  refine r_d rfl rfl rfl (s_extract rfl rfl rfl) ?_
  refine r_d rfl rfl rfl (s_extract rfl rfl rfl) ?_
  refine r_d rfl rfl rfl (s_assign rfl rfl) ?_
  refine r_d rfl rfl rfl (s_assign rfl rfl) ?_
  refine r_d rfl rfl rfl (s_assign rfl rfl) ?_
  refine r_end ?_
  refine g_seq ?_
  refine g_run (by kernel_rfl) [(0, .d), (1, .d), (2, .d), (3, .w)] rfl ?_
  refine r_d rfl rfl rfl (s_move rfl rfl) ?_
  refine r_d rfl rfl rfl (s_move rfl rfl) ?_
  refine r_d rfl rfl rfl (s_move rfl rfl) ?_
  rcases bindXS hr with ⟨c_r_2, hr_2, rfl⟩ | ⟨r_2, hr_2, hr⟩
  ·
   refine r_die rfl rfl (s_callX _ rfl cl_Psnapshot_reader_done (.cons rfl (Wk.refl _) (.cons rfl (Wk.refl _) (.cons rfl (Wk.refl _) .nil))) (by exact (pf0 _)) (specX_inl (lg_Psnapshot_reader_done_s1 _ _ _ _ _ hr_2))) (hX _ ⟨_, rfl, rfl⟩)
  ·
   refine r_w rfl rfl rfl (s_call _ rfl cl_Psnapshot_reader_done (.cons rfl (Wk.refl _) (.cons rfl (Wk.refl _) (.cons rfl (Wk.refl _) .nil))) (by exact (pf0 _)) (specX_inr (lg_Psnapshot_reader_done_s1 _ _ _ _ _ hr_2))) ?_
   rintro _ _ ⟨_, ⟨rfl, rfl⟩, rfl⟩
   refine r_st ((.cell b_o0 (enc_S_snapshot_reader r_2)) :: _) rfl ?_
   refine r_end ?_
   refine g_seq ?_
   refine g_run (by kernel_rfl) [(0, .d), (1, .d)] rfl ?_
   refine r_d rfl rfl rfl (s_move rfl rfl) ?_
   refine r_d rfl rfl rfl (s_assign rfl rfl) ?_
   refine r_end ?_
   obtain rfl := Option.some.inj hr
   refine g_ret Tryz.func50 _ (.cons (resTmp rfl (Wk.refl _)) .nil) ?_
   exact ⟨_, rfl, rfl, rfl⟩

noncomputable def lf_snapshot_TakeProgram_1_1_s1 (c_0 : S_snapshot_reader) : Option (Int ⊕ (S_api_Decl × S_snapshot_reader)) :=
  (bindX (lf_Psnapshot_reader_text_s1 c_0) fun r_2 =>
  (bindX (lf_Psnapshot_reader_number_s1 0 6 r_2.2) fun r_3 =>
  some (.inr ((⟨r_2.1, r_3.1⟩ : S_api_Decl), r_3.2))))

set_option maxHeartbeats 1000000 in
theorem lg_snapshot_TakeProgram_1_1_s1 (c_0 : S_snapshot_reader) (b_o0 : Nat) (res : Int ⊕ (S_api_Decl × S_snapshot_reader)) (hr : lf_snapshot_TakeProgram_1_1_s1 c_0 = some res) : SpecX Tryz.prog 49 [.ptr (.ref b_o0 0 [])] [.cell b_o0 (enc_S_snapshot_reader c_0)] (fun d σ => ∃ r : S_api_Decl × S_snapshot_reader, res = .inr r ∧ d = enc_S_api_Decl r.1 ∧ σ = [.cell b_o0 (enc_S_snapshot_reader r.2)]) (fun d => ∃ c, res = .inl c ∧ d = .ifc 191 (.agg [.int .i64 c])) := by
  unfold lf_snapshot_TakeProgram_1_1_s1 at hr
  refine spec_envX [(0, .ptr (.ref b_o0 0 []))] Tryz.func49 rfl rfl fun K hK hX => ?_
  refine g_seq ?_
  refine g_run (by kernel_rfl) [(0, .w)] rfl ?_
  refine r_w rfl rfl rfl (s_alloc rfl zv_api_Decl) ?_
  rintro _ _ ⟨b1_0, rfl, rfl⟩
  refine r_end ?_
  refine g_seq ?_
  refine g_run (by kernel_rfl) [(0, .d), (1, .w), (2, .d)] rfl ?_
  refine r_d rfl rfl rfl (s_load rfl rfl (by exact ty_P_snapshot_reader) rfl) ?_
  rcases bindXS hr with ⟨c_r_2, hr_2, rfl⟩ | ⟨r_2, hr_2, hr⟩
  ·
   refine r_die rfl rfl (s_callX _ rfl cl_Psnapshot_reader_text (.cons rfl (Wk.refl _) .nil) (by exact (pf1 _ _ _)) (specX_inl (lg_Psnapshot_reader_text_s1 _ _ _ hr_2))) (hX _ ⟨_, rfl, rfl⟩)
  ·
   refine r_w rfl rfl rfl (s_call _ rfl cl_Psnapshot_reader_text (.cons rfl (Wk.refl _) .nil) (by exact (pf1 _ _ _)) (specX_inr (lg_Psnapshot_reader_text_s1 _ _ _ hr_2))) ?_
   rintro _ _ ⟨_, ⟨rfl, rfl⟩, rfl⟩
   refine r_st ((.cell b_o0 (enc_S_snapshot_reader r_2.2)) :: _) rfl ?_
   refine r_d rfl rfl rfl (s_assign rfl rfl) ?_
   refine r_end ?_
   refine g_seq ?_
   refine g_run (by kernel_rfl) [(0, .d), (1, .d), (2, .w), (3, .d), (4, .w)] rfl ?_
   refine r_d rfl rfl rfl (s_move rfl rfl) ?_
   refine r_d rfl rfl rfl (s_load rfl rfl (by exact ty_P_snapshot_reader) rfl) ?_
   rcases bindXS hr with ⟨c_r_3, hr_3, rfl⟩ | ⟨r_3, hr_3, hr⟩
   ·
    refine r_die rfl rfl (s_callX _ rfl cl_Psnapshot_reader_number (.cons rfl (Wk.refl _) (.cons rfl (Wk.refl _) (.cons rfl (Wk.refl _) .nil))) (by exact (pf0 _)) (specX_inl (lg_Psnapshot_reader_number_s1 _ _ _ _ _ hr_3))) (hX _ ⟨_, rfl, rfl⟩)
   ·
    refine r_w rfl rfl rfl (s_call _ rfl cl_Psnapshot_reader_number (.cons rfl (Wk.refl _) (.cons rfl (Wk.refl _) (.cons rfl (Wk.refl _) .nil))) (by exact (pf0 _)) (specX_inr (lg_Psnapshot_reader_number_s1 _ _ _ _ _ hr_3))) ?_
    rintro _ _ ⟨_, ⟨rfl, rfl⟩, rfl⟩
    refine r_st ((.cell b_o0 (enc_S_snapshot_reader r_3.2)) :: _) rfl ?_
    refine r_d rfl rfl rfl (s_build rfl bt_api_Decl (.cons rfl (Wk.refl _) (.cons rfl (Wk.refl _) .nil)) (.cons rfl rfl rfl (.cons rfl rfl rfl (.nil _)))) ?_
    refine r_w01 rfl rfl rfl (t_store0 _ rfl rfl rfl (Wk.refl _) (pf1 _ _ _) (by exact ty_api_Decl) rfl rfl rfl) ?_
    refine r_end ?_
    refine g_freeze 1 b1_0 rfl (pf0 _) ?_
    obtain rfl := Option.some.inj hr
    refine g_ret Tryz.func49 _ (.cons (resPtr rfl (by exact ty_api_Decl) rfl (Wk.refl _)) .nil) ?_
    exact ⟨_, rfl, rfl, rfl⟩

noncomputable def lf_snapshot_take_s2_L0 (k : ((List S_api_Decl)) → (S_snapshot_reader) → Option (Int ⊕ ((List S_api_Decl) × S_snapshot_reader))) : Nat → (List S_api_Decl) → S_snapshot_reader → Option (Int ⊕ ((List S_api_Decl) × S_snapshot_reader))
  | 0, out_5, r_7 =>
  (k out_5 r_7)
  | rest + 1, out_5, r_7 =>
  (bindX (lf_snapshot_TakeProgram_1_1_s1 r_7) fun r_11 =>
  ((appO 24 out_5 [r_11.1]).bind fun l_12 =>
  (lf_snapshot_take_s2_L0 k rest l_12 r_11.2)))
noncomputable def lf_snapshot_take_s2 (most_a1 : Int) (c_0 : S_snapshot_reader) : Option (Int ⊕ ((List S_api_Decl) × S_snapshot_reader)) :=
  (bindX (lf_Psnapshot_reader_number_s1 0 most_a1 c_0) fun r_3 =>
  (lf_snapshot_take_s2_L0 (fun out_9 r_10 =>
  some (.inr (out_9, r_10))) (r_3.1 - 0 : Int).toNat [] r_3.2))

set_option maxHeartbeats 1000000 in
theorem lg_snapshot_take_s2 (most_a1 : Int) (c_0 : S_snapshot_reader) (b_o0 : Nat) (res : Int ⊕ ((List S_api_Decl) × S_snapshot_reader)) (hr : lf_snapshot_take_s2 most_a1 c_0 = some res) : SpecX Tryz.prog 48 [.ref b_o0 0 [], .int .i64 most_a1, .clo (.func 49) [] [.ptr (.ref b_o0 0 [])]] [.cell b_o0 (enc_S_snapshot_reader c_0)] (fun d σ => ∃ r : (List S_api_Decl) × S_snapshot_reader, res = .inr r ∧ d = .lst (r.1.map enc_S_api_Decl) ∧ σ = [.cell b_o0 (enc_S_snapshot_reader r.2)]) (fun d => ∃ c, res = .inl c ∧ d = .ifc 191 (.agg [.int .i64 c])) := by
  unfold lf_snapshot_take_s2 at hr
  refine spec_envX [(0, .ref b_o0 0 []), (1, .int .i64 most_a1), (2, .clo (.func 49) [] [.ptr (.ref b_o0 0 [])])] Tryz.func48 rfl rfl fun K hK hX => ?_
  refine g_seq ?_
  refine g_run (by kernel_rfl) [(0, .w)] rfl ?_
  refine r_w rfl rfl rfl (s_nilOwn 29 2 (.inl rfl)) ?_
  rintro _ _ ⟨u6_0, rfl, rfl⟩
  refine r_end ?_
  refine g_seq ?_
  refine g_run (by kernel_rfl) [(0, .w)] rfl ?_
  refine r_w rfl rfl rfl (s_nilOwn 29 2 (.inl rfl)) ?_
  rintro _ _ ⟨u7_1, rfl, rfl⟩
  refine r_end ?_
  refine g_seq ?_
  refine g_seq ?_
  refine g_run (by kernel_rfl) [(0, .d), (1, .d), (2, .w), (3, .d)] rfl ?_
  refine r_d rfl rfl rfl (s_move rfl rfl) ?_
  refine r_d rfl rfl rfl (s_move rfl rfl) ?_
  rcases bindXS hr with ⟨c_r_3, hr_3, rfl⟩ | ⟨r_3, hr_3, hr⟩
  ·
   refine r_die rfl rfl (s_callX _ rfl cl_Psnapshot_reader_number (.cons rfl (Wk.refl _) (.cons rfl (Wk.refl _) (.cons rfl (Wk.refl _) .nil))) (by exact (pf2 _ _ _ _)) (specX_inl (lg_Psnapshot_reader_number_s1 _ _ _ _ _ hr_3))) (hX _ ⟨_, rfl, rfl⟩)
  ·
   refine r_w rfl rfl rfl (s_call _ rfl cl_Psnapshot_reader_number (.cons rfl (Wk.refl _) (.cons rfl (Wk.refl _) (.cons rfl (Wk.refl _) .nil))) (by exact (pf2 _ _ _ _)) (specX_inr (lg_Psnapshot_reader_number_s1 _ _ _ _ _ hr_3))) ?_
   rintro _ _ ⟨_, ⟨rfl, rfl⟩, rfl⟩
   refine r_st ((.cell b_o0 (enc_S_snapshot_reader r_3.2)) :: _) rfl ?_
   refine r_d rfl rfl rfl (s_move rfl rfl) ?_
   refine r_end ?_
   obtain ⟨kk0, hkk0, hr⟩ := exK (fun k => lf_snapshot_take_s2_L0 k (r_3.1 - 0 : Int).toNat [] r_3.2) hr
   refine g_int 10 rfl fun hla0 => ?_
   refine g_blockJ (fun env σ => ∃ (out_9 : (List S_api_Decl)) (r_10 : S_snapshot_reader) (u_8 : Value), env = [(7, .own u_8 (out_9.map enc_S_api_Decl))] ∧ σ = [.row u_8 out_9.length 29 2, .cell b_o0 (enc_S_snapshot_reader r_10)] ∧ kk0 out_9 r_10 = some res) ?_ (fun HK0 => ?_)
   ·
    rintro _ _ ⟨out_9, r_10, u_8, rfl, rfl, hr⟩
    rw [hkk0] at hr
    refine g_seq ?_
    refine g_run (by kernel_rfl) [(0, .d), (1, .d)] rfl ?_
    refine r_d rfl rfl rfl (s_move rfl rfl) ?_
    refine r_d rfl rfl rfl (s_assign rfl rfl) ?_
    refine r_end ?_
    refine g_perm [_] _ (pf1 _ _ _) ?_
    obtain rfl := Option.some.inj hr
    refine g_ret Tryz.func48 _ (.cons (resTmp rfl (Wk.own _ _)) .nil) ?_
    exact ⟨_, rfl, rfl, rfl⟩
   ·
    refine g_sub [(2, .clo (.func 49) [] [.ptr (.ref b_o0 0 [])]), (10, .int .i64 r_3.1), (7, .own u7_1 ([].map enc_S_api_Decl)), (11, .int .i64 0)] (Sub.cons' rfl (Sub.cons' rfl (Sub.cons' rfl (Sub.cons' rfl (Sub.nil _))))) ?_
    refine g_perm [_, _] _ ((pf1 _ _ _).trans (pf1 _ _ _)) ?_
    refine g_loop (fun n env σ => ∃ (out_5 : (List S_api_Decl)) (t11_6 : Int) (r_7 : S_snapshot_reader) (u_4 : Value) (m0 : Nat), (m0 = n) ∧ (env = [(2, .clo (.func 49) [] [.ptr (.ref b_o0 0 [])]), (10, .int .i64 r_3.1), (7, .own u_4 (out_5.map enc_S_api_Decl)), (11, .int .i64 t11_6)]) ∧ (σ = [.cell b_o0 (enc_S_snapshot_reader r_7), .row u_4 out_5.length 29 2]) ∧ (m0 = (r_3.1 - t11_6 : Int).toNat) ∧ (lf_snapshot_take_s2_L0 kk0 m0 out_5 r_7 = some res)) _ ⟨[], 0, r_3.2, u7_1, _, rfl, rfl, rfl, rfl, hr⟩ ?_
    rintro n _ _ ⟨out_5, t11_6, r_7, u_4, m0, rfl, rfl, rfl, hi0, hr⟩ IH0
    refine g_int 11 rfl fun hb0 => ?_
    rcases cntStep t11_6 r_3.1 m0 hi0 with ⟨hm0, ht0⟩ | ⟨m0', hm0, ht0, hi0', hlt0⟩
    ·
     rw [hm0, lf_snapshot_take_s2_L0] at hr
     refine g_seq ?_
     refine g_run (by kernel_rfl) [(0, .d)] rfl ?_
     refine r_d rfl rfl rfl (s_cmp rfl rfl rfl rfl) ?_
     refine r_end ?_
     refine g_seq ?_
     refine g_known 12 false rfl ht0 ?_
     refine g_condF rfl ?_
     refine g_exit rfl ?_
     refine g_sub [(7, .own u_4 (out_5.map enc_S_api_Decl))] (Sub.cons' rfl (Sub.nil _)) ?_
     refine g_perm [_, _] _ ((pf0 _).trans (pf1 _ _ _)) ?_
     exact HK0 _ _ ⟨out_5, r_7, u_4, rfl, rfl, hr⟩
    ·
     rw [hm0, lf_snapshot_take_s2_L0] at hr
     refine g_seq ?_
     refine g_run (by kernel_rfl) [(0, .d)] rfl ?_
     refine r_d rfl rfl rfl (s_cmp rfl rfl rfl rfl) ?_
     refine r_end ?_
     refine g_seq ?_
     refine g_int 10 rfl fun hbN10 => ?_
     refine g_known 12 true rfl ht0 ?_
     refine g_condT rfl ?_
     refine g_skip ?_
     refine g_seq ?_
     refine g_block ?_
     refine g_run (by kernel_rfl) [(0, .d), (1, .d), (2, .w), (3, .d), (4, .w), (5, .d)] rfl ?_
     refine r_d rfl rfl rfl (s_move rfl rfl) ?_
     refine r_d rfl rfl rfl (s_move rfl rfl) ?_
     rcases bindXS hr with ⟨c_r_11, hr_11, rfl⟩ | ⟨r_11, hr_11, hr⟩
     ·
      refine r_die rfl rfl (s_callVX _ rfl rfl cl_snapshot_TakeProgram_1_1 .nil rfl (by exact (pf0 _)) (specX_inl (lg_snapshot_TakeProgram_1_1_s1 _ _ _ hr_11))) (hX _ ⟨_, rfl, rfl⟩)
     ·
      refine r_w rfl rfl rfl (s_callV _ rfl rfl cl_snapshot_TakeProgram_1_1 .nil rfl (by exact (pf0 _)) (specX_inr (lg_snapshot_TakeProgram_1_1_s1 _ _ _ hr_11))) ?_
      rintro _ _ ⟨_, ⟨rfl, rfl⟩, rfl⟩
      refine r_st ((.cell b_o0 (enc_S_snapshot_reader r_11.2)) :: _) rfl ?_
      refine r_d rfl rfl rfl (m_lit (f := enc_S_api_Decl) [.tmp 15] [r_11.1] rfl el_L_api_Decl rfl rfl (by decide) (by decide) (.cons rfl (Wk.refl _) .nil) sz_S_api_Decl (fun _ => rfl)) ?_
      obtain ⟨l_12, hl_12, hr⟩ := bindS hr
      refine r_w rfl rfl rfl (m_appOwn (f := enc_S_api_Decl) out_5 [r_11.1] rfl el_L_api_Decl rfl rfl (asl rfl) (pf1 _ _ _) rfl sz_S_api_Decl hl_12) ?_
      rintro _ _ ⟨u17_12, rfl, rfl⟩
      refine r_d rfl rfl rfl (s_assign rfl rfl) ?_
      refine r_end ?_
      refine g_inBlock ?_
      refine g_run (by kernel_rfl) [(0, .d), (1, .d)] rfl ?_
      refine r_d rfl rfl rfl (s_ar (r := t11_6 + 1) rfl rfl rfl rfl (by omega)) ?_
      refine r_d rfl rfl rfl (s_move rfl rfl) ?_
      refine r_end ?_
      refine g_sub [(2, .clo (.func 49) [] [.ptr (.ref b_o0 0 [])]), (10, .int .i64 r_3.1), (7, .own u17_12 (l_12.map enc_S_api_Decl)), (11, .int .i64 (t11_6 + 1))] (Sub.cons' rfl (Sub.cons' rfl (Sub.cons' rfl (Sub.cons' rfl (Sub.nil _))))) ?_
      refine g_perm [_, _] _ ((pf0 _).trans (pf1 _ _ _)) ?_
      exact IH0 _ _ _ (by omega) ⟨l_12, (t11_6 + 1), r_11.2, u17_12, _, rfl, rfl, rfl, hi0', hr⟩

noncomputable def lfo_Psnapshot_reader_term_s1 (rec : Int → S_snapshot_reader → Option (Int ⊕ ((List T) × S_snapshot_reader))) (depth_a1 : Int) (c_0 : S_snapshot_reader) : Option (Int ⊕ (T × S_snapshot_reader)) :=
  (bif (decide (depth_a1 > (19 : Int))) then
  some (.inl 6)
  else
  (bindX (lf_Psnapshot_reader_number_s1 0 2 c_0) fun r_3 =>
  (bif (r_3.1 == (0 : Int)) then
  (bindX (lf_Psnapshot_reader_number_s1 (-2147483648) 2147483648 r_3.2) fun r_6 =>
  some (.inr ((T.mk r_3.1 r_6.1 ⟨#[]⟩ []), r_6.2)))
  else
  (bif (r_3.1 == (1 : Int)) then
  (bindX (lf_Psnapshot_reader_number_s1 0 1048576 r_3.2) fun r_8 =>
  some (.inr ((T.mk r_3.1 r_8.1 ⟨#[]⟩ []), r_8.2)))
  else
  (bindX (lf_Psnapshot_reader_text_s1 r_3.2) fun r_9 =>
  (bindX (rec (wr (depth_a1 + (1 : Int))) r_9.2) fun r_10 =>
  some (.inr ((T.mk r_3.1 0 r_9.1 r_10.1), r_10.2))))))))

set_option maxHeartbeats 1000000 in
theorem lgo_Psnapshot_reader_term_s1 (rec : Int → S_snapshot_reader → Option (Int ⊕ ((List T) × S_snapshot_reader))) (IHR : ∀ (depth_a1 : Int) (c_0 : S_snapshot_reader) (b_o0 : Nat) (res : Int ⊕ ((List T) × S_snapshot_reader)), rec depth_a1 c_0 = some res → SpecX Tryz.prog 161 [.ref b_o0 0 [], .int .i64 depth_a1] [.cell b_o0 (enc_S_snapshot_reader c_0)] (fun d σ => ∃ r : (List T) × S_snapshot_reader, res = .inr r ∧ d = .lst (r.1.map encT) ∧ σ = [.cell b_o0 (enc_S_snapshot_reader r.2)]) (fun d => ∃ c, res = .inl c ∧ d = .ifc 191 (.agg [.int .i64 c]))) (depth_a1 : Int) (c_0 : S_snapshot_reader) (b_o0 : Nat) (res : Int ⊕ (T × S_snapshot_reader)) (hr : lfo_Psnapshot_reader_term_s1 rec depth_a1 c_0 = some res) : SpecX Tryz.prog 84 [.ref b_o0 0 [], .int .i64 depth_a1] [.cell b_o0 (enc_S_snapshot_reader c_0)] (fun d σ => ∃ r : T × S_snapshot_reader, res = .inr r ∧ d = encT r.1 ∧ σ = [.cell b_o0 (enc_S_snapshot_reader r.2)]) (fun d => ∃ c, res = .inl c ∧ d = .ifc 191 (.agg [.int .i64 c])) := by
  unfold lfo_Psnapshot_reader_term_s1 at hr
  refine spec_envX [(0, .ref b_o0 0 []), (1, .int .i64 depth_a1)] Tryz.func84 rfl rfl fun K hK hX => ?_
  refine g_seq ?_
  refine g_run (by kernel_rfl) [(0, .w)] rfl ?_
  refine r_w rfl rfl rfl (s_alloc rfl zv_api_Term) ?_
  rintro _ _ ⟨b4_0, rfl, rfl⟩
  refine r_end ?_
  refine g_seq ?_
  refine g_seq ?_
  refine g_run (by kernel_rfl) [(0, .d), (1, .d)] rfl ?_
  refine r_d rfl rfl rfl (s_move rfl rfl) ?_
  refine r_d rfl rfl rfl (s_cmp rfl rfl rfl rfl) ?_
  refine r_end ?_
  refine g_sB 7 rfl hr (fun h7_1 hr => ?_) (fun h7_1 hr => ?_)
  ·
   refine g_condT rfl ?_
   refine g_run (by kernel_rfl) [(0, .d), (1, .d), (2, .w)] rfl ?_
   refine r_d rfl rfl rfl (s_build rfl bt_snapshot_failure (.cons rfl (Wk.refl _) .nil) (.cons rfl rfl rfl (.nil _))) ?_
   refine r_d rfl rfl rfl (s_makeIfc rfl Tryz.underlying191 rfl) ?_
   obtain rfl := Option.some.inj hr
   refine r_die rfl rfl (s_panic rfl rfl) (hX _ ⟨_, rfl, rfl⟩)
  ·
   refine g_condF rfl ?_
   refine g_skip ?_
   refine g_seq ?_
   refine g_run (by kernel_rfl) [(0, .d), (1, .w), (2, .d), (3, .w), (4, .w)] rfl ?_
   refine r_d rfl rfl rfl (s_move rfl rfl) ?_
   rcases bindXS hr with ⟨c_r_3, hr_3, rfl⟩ | ⟨r_3, hr_3, hr⟩
   ·
    refine r_die rfl rfl (s_callX _ rfl cl_Psnapshot_reader_number (.cons rfl (Wk.refl _) (.cons rfl (Wk.refl _) (.cons rfl (Wk.refl _) .nil))) (by exact (pf1 _ _ _)) (specX_inl (lg_Psnapshot_reader_number_s1 _ _ _ _ _ hr_3))) (hX _ ⟨_, rfl, rfl⟩)
   ·
    refine r_w rfl rfl rfl (s_call _ rfl cl_Psnapshot_reader_number (.cons rfl (Wk.refl _) (.cons rfl (Wk.refl _) (.cons rfl (Wk.refl _) .nil))) (by exact (pf1 _ _ _)) (specX_inr (lg_Psnapshot_reader_number_s1 _ _ _ _ _ hr_3))) ?_
    rintro _ _ ⟨_, ⟨rfl, rfl⟩, rfl⟩
    refine r_st ((.cell b_o0 (enc_S_snapshot_reader r_3.2)) :: _) rfl ?_
    refine r_d rfl rfl rfl (s_build rfl bt_api_Term (.cons rfl (Wk.refl _) .nil) (.cons rfl rfl rfl (.nil _))) ?_
    refine r_w rfl rfl rfl (s_alloc rfl zv_api_Term) ?_
    rintro _ _ ⟨b5_3, rfl, rfl⟩
    refine r_w01 rfl rfl rfl (t_store0 _ rfl rfl rfl (Wk.refl _) (pf0 _) (by exact ty_api_Term) rfl rfl rfl) ?_
    refine r_end ?_
    refine g_seq ?_
    refine g_seq ?_
    refine g_run (by kernel_rfl) [(0, .d), (1, .r)] rfl ?_
    refine r_d rfl rfl rfl (s_fieldRef rfl fl_api_Term_0 rfl) ?_
    refine r_r rfl rfl rfl (t_loadRef rfl rfl (.head _) rfl rfl (by exact ty_int) rfl) ?_
    refine r_end ?_
    refine g_block ?_
    refine g_seq ?_
    refine g_run (by kernel_rfl) [(0, .d), (1, .d)] rfl ?_
    refine r_d rfl rfl rfl (s_cmp rfl rfl rfl rfl) ?_
    refine r_d rfl rfl rfl (s_assign rfl rfl) ?_
    refine r_end ?_
    refine g_sB 23 rfl hr (fun h23_4 hr => ?_) (fun h23_4 hr => ?_)
    ·
     refine g_condT rfl ?_
     refine g_run (by kernel_rfl) [(0, .d), (1, .w), (2, .d), (3, .w)] rfl ?_
     refine r_d rfl rfl rfl (s_move rfl rfl) ?_
     rcases bindXS hr with ⟨c_r_6, hr_6, rfl⟩ | ⟨r_6, hr_6, hr⟩
     ·
      refine r_die rfl rfl (s_callX _ rfl cl_Psnapshot_reader_number (.cons rfl (Wk.refl _) (.cons rfl (Wk.refl _) (.cons rfl (Wk.refl _) .nil))) (by exact (pf1 _ _ _)) (specX_inl (lg_Psnapshot_reader_number_s1 _ _ _ _ _ hr_6))) (hX _ ⟨_, rfl, rfl⟩)
     ·
      refine r_w rfl rfl rfl (s_call _ rfl cl_Psnapshot_reader_number (.cons rfl (Wk.refl _) (.cons rfl (Wk.refl _) (.cons rfl (Wk.refl _) .nil))) (by exact (pf1 _ _ _)) (specX_inr (lg_Psnapshot_reader_number_s1 _ _ _ _ _ hr_6))) ?_
      rintro _ _ ⟨_, ⟨rfl, rfl⟩, rfl⟩
      refine r_st ((.cell b_o0 (enc_S_snapshot_reader r_6.2)) :: _) rfl ?_
      refine r_d rfl rfl rfl (s_fieldRef rfl fl_api_Term_1 rfl) ?_
      refine r_w01 rfl rfl rfl (t_store _ rfl rfl rfl (Wk.refl _) (pf1 _ _ _) rfl rfl (by exact ty_int) rfl rfl rfl) ?_
      refine r_end ?_
      refine g_inBlock ?_
      refine g_seq ?_
      refine g_run (by kernel_rfl) [(0, .r), (1, .w)] rfl ?_
      refine r_r rfl rfl rfl (t_loadRef rfl rfl (.head _) rfl rfl (by exact ty_api_Term) rfl) ?_
      refine r_w01 rfl rfl rfl (t_store0 _ rfl rfl rfl (Wk.refl _) (pf2 _ _ _ _) (by exact ty_api_Term) rfl rfl rfl) ?_
      refine r_end ?_
      refine g_freeze 4 b4_0 rfl (pf0 _) ?_
      refine g_perm [_] _ (pf1 _ _ _) ?_
      obtain rfl := Option.some.inj hr
      refine g_ret Tryz.func84 _ (.cons (resPtr rfl (by exact ty_api_Term) rfl (Wk.refl _)) .nil) ?_
      exact ⟨_, rfl, by first | rfl | exact (congrArg D.agg (fsT_eq (T.mk _ _ _ _))).symm, rfl⟩
    ·
     refine g_condF rfl ?_
     refine g_seq ?_
     refine g_run (by kernel_rfl) [(0, .d), (1, .d)] rfl ?_
     refine r_d rfl rfl rfl (s_cmp rfl rfl rfl rfl) ?_
     refine r_d rfl rfl rfl (s_assign rfl rfl) ?_
     refine r_end ?_
     refine g_sB 28 rfl hr (fun h28_6 hr => ?_) (fun h28_6 hr => ?_)
     ·
      refine g_condT rfl ?_
      refine g_run (by kernel_rfl) [(0, .d), (1, .w), (2, .d), (3, .w)] rfl ?_
      refine r_d rfl rfl rfl (s_move rfl rfl) ?_
      rcases bindXS hr with ⟨c_r_8, hr_8, rfl⟩ | ⟨r_8, hr_8, hr⟩
      ·
       refine r_die rfl rfl (s_callX _ rfl cl_Psnapshot_reader_number (.cons rfl (Wk.refl _) (.cons rfl (Wk.refl _) (.cons rfl (Wk.refl _) .nil))) (by exact (pf1 _ _ _)) (specX_inl (lg_Psnapshot_reader_number_s1 _ _ _ _ _ hr_8))) (hX _ ⟨_, rfl, rfl⟩)
      ·
       refine r_w rfl rfl rfl (s_call _ rfl cl_Psnapshot_reader_number (.cons rfl (Wk.refl _) (.cons rfl (Wk.refl _) (.cons rfl (Wk.refl _) .nil))) (by exact (pf1 _ _ _)) (specX_inr (lg_Psnapshot_reader_number_s1 _ _ _ _ _ hr_8))) ?_
       rintro _ _ ⟨_, ⟨rfl, rfl⟩, rfl⟩
       refine r_st ((.cell b_o0 (enc_S_snapshot_reader r_8.2)) :: _) rfl ?_
       refine r_d rfl rfl rfl (s_fieldRef rfl fl_api_Term_1 rfl) ?_
       refine r_w01 rfl rfl rfl (t_store _ rfl rfl rfl (Wk.refl _) (pf1 _ _ _) rfl rfl (by exact ty_int) rfl rfl rfl) ?_
       refine r_end ?_
       refine g_inBlock ?_
       refine g_seq ?_
       refine g_run (by kernel_rfl) [(0, .r), (1, .w)] rfl ?_
       refine r_r rfl rfl rfl (t_loadRef rfl rfl (.head _) rfl rfl (by exact ty_api_Term) rfl) ?_
       refine r_w01 rfl rfl rfl (t_store0 _ rfl rfl rfl (Wk.refl _) (pf2 _ _ _ _) (by exact ty_api_Term) rfl rfl rfl) ?_
       refine r_end ?_
       refine g_freeze 4 b4_0 rfl (pf0 _) ?_
       refine g_perm [_] _ (pf1 _ _ _) ?_
       obtain rfl := Option.some.inj hr
       refine g_ret Tryz.func84 _ (.cons (resPtr rfl (by exact ty_api_Term) rfl (Wk.refl _)) .nil) ?_
       exact ⟨_, rfl, by first | rfl | exact (congrArg D.agg (fsT_eq (T.mk _ _ _ _))).symm, rfl⟩
     ·
      refine g_condF rfl ?_
      refine g_seq ?_
      refine g_run (by kernel_rfl) [(0, .d), (1, .w), (2, .d), (3, .w)] rfl ?_
      refine r_d rfl rfl rfl (s_move rfl rfl) ?_
      rcases bindXS hr with ⟨c_r_9, hr_9, rfl⟩ | ⟨r_9, hr_9, hr⟩
      ·
       refine r_die rfl rfl (s_callX _ rfl cl_Psnapshot_reader_text (.cons rfl (Wk.refl _) .nil) (by exact (pf1 _ _ _)) (specX_inl (lg_Psnapshot_reader_text_s1 _ _ _ hr_9))) (hX _ ⟨_, rfl, rfl⟩)
      ·
       refine r_w rfl rfl rfl (s_call _ rfl cl_Psnapshot_reader_text (.cons rfl (Wk.refl _) .nil) (by exact (pf1 _ _ _)) (specX_inr (lg_Psnapshot_reader_text_s1 _ _ _ hr_9))) ?_
       rintro _ _ ⟨_, ⟨rfl, rfl⟩, rfl⟩
       refine r_st ((.cell b_o0 (enc_S_snapshot_reader r_9.2)) :: _) rfl ?_
       refine r_d rfl rfl rfl (s_fieldRef rfl fl_api_Term_2 rfl) ?_
       refine r_w01 rfl rfl rfl (t_store _ rfl rfl rfl (Wk.refl _) (pf1 _ _ _) rfl rfl (by exact ty_string) rfl rfl rfl) ?_
       refine r_end ?_
       refine g_run (by kernel_rfl) [(0, .d), (1, .d), (2, .d), (3, .w), (4, .d), (5, .w)] rfl ?_
       refine r_d rfl rfl rfl (s_move rfl rfl) ?_
       refine r_d rfl rfl rfl (s_move rfl rfl) ?_
       refine r_d rfl rfl rfl (s_arW rfl rfl rfl rfl) ?_
       rcases bindXS hr with ⟨c_r_10, hr_10, rfl⟩ | ⟨r_10, hr_10, hr⟩
       ·
        refine r_die rfl rfl (s_callX _ rfl cl_Psnapshot_reader_args (.cons rfl (Wk.refl _) (.cons rfl (Wk.refl _) .nil)) (by exact (pf1 _ _ _)) (specX_inl (IHR _ _ _ _ hr_10))) (hX _ ⟨_, rfl, rfl⟩)
       ·
        refine r_w rfl rfl rfl (s_call _ rfl cl_Psnapshot_reader_args (.cons rfl (Wk.refl _) (.cons rfl (Wk.refl _) .nil)) (by exact (pf1 _ _ _)) (specX_inr (IHR _ _ _ _ hr_10))) ?_
        rintro _ _ ⟨_, ⟨rfl, rfl⟩, rfl⟩
        refine r_st ((.cell b_o0 (enc_S_snapshot_reader r_10.2)) :: _) rfl ?_
        refine r_d rfl rfl rfl (s_fieldRef rfl fl_api_Term_3 rfl) ?_
        refine r_w01 rfl rfl rfl (t_store _ rfl rfl rfl (Wk.refl _) (pf1 _ _ _) rfl rfl (by exact ty_L_api_Term) rfl rfl rfl) ?_
        refine r_end ?_
        refine g_inBlock ?_
        refine g_seq ?_
        refine g_run (by kernel_rfl) [(0, .r), (1, .w)] rfl ?_
        refine r_r rfl rfl rfl (t_loadRef rfl rfl (.head _) rfl rfl (by exact ty_api_Term) rfl) ?_
        refine r_w01 rfl rfl rfl (t_store0 _ rfl rfl rfl (Wk.refl _) (pf2 _ _ _ _) (by exact ty_api_Term) rfl rfl rfl) ?_
        refine r_end ?_
        refine g_freeze 4 b4_0 rfl (pf0 _) ?_
        refine g_perm [_] _ (pf1 _ _ _) ?_
        obtain rfl := Option.some.inj hr
        refine g_ret Tryz.func84 _ (.cons (resPtr rfl (by exact ty_api_Term) rfl (Wk.refl _)) .nil) ?_
        exact ⟨_, rfl, by first | rfl | exact (congrArg D.agg (fsT_eq (T.mk _ _ _ _))).symm, rfl⟩

noncomputable def lfo_Psnapshot_reader_args_1_s1 (rec : Int → S_snapshot_reader → Option (Int ⊕ ((List T) × S_snapshot_reader))) (t1_a1 : Int) (c_0 : S_snapshot_reader) : Option (Int ⊕ (T × S_snapshot_reader)) :=
  (bindX (lfo_Psnapshot_reader_term_s1 rec t1_a1 c_0) fun r_2 =>
  some (.inr (r_2.1, r_2.2)))

set_option maxHeartbeats 1000000 in
theorem lgo_Psnapshot_reader_args_1_s1 (rec : Int → S_snapshot_reader → Option (Int ⊕ ((List T) × S_snapshot_reader))) (IHR : ∀ (depth_a1 : Int) (c_0 : S_snapshot_reader) (b_o0 : Nat) (res : Int ⊕ ((List T) × S_snapshot_reader)), rec depth_a1 c_0 = some res → SpecX Tryz.prog 161 [.ref b_o0 0 [], .int .i64 depth_a1] [.cell b_o0 (enc_S_snapshot_reader c_0)] (fun d σ => ∃ r : (List T) × S_snapshot_reader, res = .inr r ∧ d = .lst (r.1.map encT) ∧ σ = [.cell b_o0 (enc_S_snapshot_reader r.2)]) (fun d => ∃ c, res = .inl c ∧ d = .ifc 191 (.agg [.int .i64 c]))) (t1_a1 : Int) (c_0 : S_snapshot_reader) (b_o0 : Nat) (res : Int ⊕ (T × S_snapshot_reader)) (hr : lfo_Psnapshot_reader_args_1_s1 rec t1_a1 c_0 = some res) : SpecX Tryz.prog 206 [.ptr (.ref b_o0 0 []), .ptr (.int .i64 t1_a1)] [.cell b_o0 (enc_S_snapshot_reader c_0)] (fun d σ => ∃ r : T × S_snapshot_reader, res = .inr r ∧ d = encT r.1 ∧ σ = [.cell b_o0 (enc_S_snapshot_reader r.2)]) (fun d => ∃ c, res = .inl c ∧ d = .ifc 191 (.agg [.int .i64 c])) := by
  unfold lfo_Psnapshot_reader_args_1_s1 at hr
  refine spec_envX [(0, .ptr (.ref b_o0 0 [])), (1, .ptr (.int .i64 t1_a1))] Tryz.func206 rfl rfl fun K hK hX => ?_
  refine g_seq ?_
  refine g_run (by kernel_rfl) [(0, .w)] rfl ?_
  refine r_w rfl rfl rfl (s_alloc rfl zv_api_Term) ?_
  rintro _ _ ⟨b2_0, rfl, rfl⟩
  refine r_end ?_
  refine g_seq ?_
  refine g_run (by kernel_rfl) [(0, .d), (1, .d), (2, .w), (3, .w)] rfl ?_
  refine r_d rfl rfl rfl (s_load rfl rfl (by exact ty_P_snapshot_reader) rfl) ?_
  refine r_d rfl rfl rfl (s_load rfl rfl (by exact ty_int) rfl) ?_
  rcases bindXS hr with ⟨c_r_2, hr_2, rfl⟩ | ⟨r_2, hr_2, hr⟩
  ·
   refine r_die rfl rfl (s_callX _ rfl cl_Psnapshot_reader_term (.cons rfl (Wk.refl _) (.cons rfl (Wk.refl _) .nil)) (by exact (pf1 _ _ _)) (specX_inl (lgo_Psnapshot_reader_term_s1 rec IHR _ _ _ _ hr_2))) (hX _ ⟨_, rfl, rfl⟩)
  ·
   refine r_w rfl rfl rfl (s_call _ rfl cl_Psnapshot_reader_term (.cons rfl (Wk.refl _) (.cons rfl (Wk.refl _) .nil)) (by exact (pf1 _ _ _)) (specX_inr (lgo_Psnapshot_reader_term_s1 rec IHR _ _ _ _ hr_2))) ?_
   rintro _ _ ⟨_, ⟨rfl, rfl⟩, rfl⟩
   refine r_st ((.cell b_o0 (enc_S_snapshot_reader r_2.2)) :: _) rfl ?_
   refine r_w01 rfl rfl rfl (t_store0 _ rfl rfl rfl (Wk.refl _) (pf1 _ _ _) (by exact ty_api_Term) (sz_encT _) rfl rfl) ?_
   refine r_end ?_
   refine g_freeze 2 b2_0 rfl (pf0 _) ?_
   obtain rfl := Option.some.inj hr
   refine g_ret Tryz.func206 _ (.cons (resPtr rfl (by exact ty_api_Term) (sz_encT _) (Wk.refl _)) .nil) ?_
   exact ⟨_, rfl, rfl, rfl⟩

noncomputable def lf_snapshot_take_s1_L0 (k : ((List T)) → (S_snapshot_reader) → Option (Int ⊕ ((List T) × S_snapshot_reader))) (rec : Int → S_snapshot_reader → Option (Int ⊕ ((List T) × S_snapshot_reader))) (one_a2_c1 : Int) : Nat → (List T) → S_snapshot_reader → Option (Int ⊕ ((List T) × S_snapshot_reader))
  | 0, out_5, r_7 =>
  (k out_5 r_7)
  | rest + 1, out_5, r_7 =>
  (bindX (lfo_Psnapshot_reader_args_1_s1 rec one_a2_c1 r_7) fun r_11 =>
  ((appO 56 out_5 [r_11.1]).bind fun l_12 =>
  (lf_snapshot_take_s1_L0 k rec one_a2_c1 rest l_12 r_11.2)))
noncomputable def lfo_snapshot_take_s1 (rec : Int → S_snapshot_reader → Option (Int ⊕ ((List T) × S_snapshot_reader))) (most_a1 : Int) (one_a2_c1 : Int) (c_0 : S_snapshot_reader) : Option (Int ⊕ ((List T) × S_snapshot_reader)) :=
  (bindX (lf_Psnapshot_reader_number_s1 0 most_a1 c_0) fun r_3 =>
  (lf_snapshot_take_s1_L0 (fun out_9 r_10 =>
  some (.inr (out_9, r_10))) rec one_a2_c1 (r_3.1 - 0 : Int).toNat [] r_3.2))

set_option maxHeartbeats 1000000 in
theorem lgo_snapshot_take_s1 (rec : Int → S_snapshot_reader → Option (Int ⊕ ((List T) × S_snapshot_reader))) (IHR : ∀ (depth_a1 : Int) (c_0 : S_snapshot_reader) (b_o0 : Nat) (res : Int ⊕ ((List T) × S_snapshot_reader)), rec depth_a1 c_0 = some res → SpecX Tryz.prog 161 [.ref b_o0 0 [], .int .i64 depth_a1] [.cell b_o0 (enc_S_snapshot_reader c_0)] (fun d σ => ∃ r : (List T) × S_snapshot_reader, res = .inr r ∧ d = .lst (r.1.map encT) ∧ σ = [.cell b_o0 (enc_S_snapshot_reader r.2)]) (fun d => ∃ c, res = .inl c ∧ d = .ifc 191 (.agg [.int .i64 c]))) (most_a1 : Int) (one_a2_c1 : Int) (c_0 : S_snapshot_reader) (b_o0 : Nat) (res : Int ⊕ ((List T) × S_snapshot_reader)) (hr : lfo_snapshot_take_s1 rec most_a1 one_a2_c1 c_0 = some res) : SpecX Tryz.prog 205 [.ref b_o0 0 [], .int .i64 most_a1, .clo (.func 206) [] [.ptr (.ref b_o0 0 []), .ptr (.int .i64 one_a2_c1)]] [.cell b_o0 (enc_S_snapshot_reader c_0)] (fun d σ => ∃ r : (List T) × S_snapshot_reader, res = .inr r ∧ d = .lst (r.1.map encT) ∧ σ = [.cell b_o0 (enc_S_snapshot_reader r.2)]) (fun d => ∃ c, res = .inl c ∧ d = .ifc 191 (.agg [.int .i64 c])) := by
  unfold lfo_snapshot_take_s1 at hr
  refine spec_envX [(0, .ref b_o0 0 []), (1, .int .i64 most_a1), (2, .clo (.func 206) [] [.ptr (.ref b_o0 0 []), .ptr (.int .i64 one_a2_c1)])] Tryz.func205 rfl rfl fun K hK hX => ?_
  refine g_seq ?_
  refine g_run (by kernel_rfl) [(0, .w)] rfl ?_
  refine r_w rfl rfl rfl (s_nilOwn 114 4 (.inl rfl)) ?_
  rintro _ _ ⟨u6_0, rfl, rfl⟩
  refine r_end ?_
  refine g_seq ?_
  refine g_run (by kernel_rfl) [(0, .w)] rfl ?_
  refine r_w rfl rfl rfl (s_nilOwn 114 4 (.inl rfl)) ?_
  rintro _ _ ⟨u7_1, rfl, rfl⟩
  refine r_end ?_
  refine g_seq ?_
  refine g_seq ?_
  refine g_run (by kernel_rfl) [(0, .d), (1, .d), (2, .w), (3, .d)] rfl ?_
  refine r_d rfl rfl rfl (s_move rfl rfl) ?_
  refine r_d rfl rfl rfl (s_move rfl rfl) ?_
  rcases bindXS hr with ⟨c_r_3, hr_3, rfl⟩ | ⟨r_3, hr_3, hr⟩
  ·
   refine r_die rfl rfl (s_callX _ rfl cl_Psnapshot_reader_number (.cons rfl (Wk.refl _) (.cons rfl (Wk.refl _) (.cons rfl (Wk.refl _) .nil))) (by exact (pf2 _ _ _ _)) (specX_inl (lg_Psnapshot_reader_number_s1 _ _ _ _ _ hr_3))) (hX _ ⟨_, rfl, rfl⟩)
  ·
   refine r_w rfl rfl rfl (s_call _ rfl cl_Psnapshot_reader_number (.cons rfl (Wk.refl _) (.cons rfl (Wk.refl _) (.cons rfl (Wk.refl _) .nil))) (by exact (pf2 _ _ _ _)) (specX_inr (lg_Psnapshot_reader_number_s1 _ _ _ _ _ hr_3))) ?_
   rintro _ _ ⟨_, ⟨rfl, rfl⟩, rfl⟩
   refine r_st ((.cell b_o0 (enc_S_snapshot_reader r_3.2)) :: _) rfl ?_
   refine r_d rfl rfl rfl (s_move rfl rfl) ?_
   refine r_end ?_
   obtain ⟨kk0, hkk0, hr⟩ := exK (fun k => lf_snapshot_take_s1_L0 k rec one_a2_c1 (r_3.1 - 0 : Int).toNat [] r_3.2) hr
   refine g_int 10 rfl fun hla0 => ?_
   refine g_blockJ (fun env σ => ∃ (out_9 : (List T)) (r_10 : S_snapshot_reader) (u_8 : Value), env = [(7, .own u_8 (out_9.map encT))] ∧ σ = [.row u_8 out_9.length 114 4, .cell b_o0 (enc_S_snapshot_reader r_10)] ∧ kk0 out_9 r_10 = some res) ?_ (fun HK0 => ?_)
   ·
    rintro _ _ ⟨out_9, r_10, u_8, rfl, rfl, hr⟩
    rw [hkk0] at hr
    refine g_seq ?_
    refine g_run (by kernel_rfl) [(0, .d), (1, .d)] rfl ?_
    refine r_d rfl rfl rfl (s_move rfl rfl) ?_
    refine r_d rfl rfl rfl (s_assign rfl rfl) ?_
    refine r_end ?_
    refine g_perm [_] _ (pf1 _ _ _) ?_
    obtain rfl := Option.some.inj hr
    refine g_ret Tryz.func205 _ (.cons (resTmp rfl (Wk.own _ _)) .nil) ?_
    exact ⟨_, rfl, rfl, rfl⟩
   ·
    refine g_sub [(2, .clo (.func 206) [] [.ptr (.ref b_o0 0 []), .ptr (.int .i64 one_a2_c1)]), (10, .int .i64 r_3.1), (7, .own u7_1 ([].map encT)), (11, .int .i64 0)] (Sub.cons' rfl (Sub.cons' rfl (Sub.cons' rfl (Sub.cons' rfl (Sub.nil _))))) ?_
    refine g_perm [_, _] _ ((pf1 _ _ _).trans (pf1 _ _ _)) ?_
    refine g_loop (fun n env σ => ∃ (out_5 : (List T)) (t11_6 : Int) (r_7 : S_snapshot_reader) (u_4 : Value) (m0 : Nat), (m0 = n) ∧ (env = [(2, .clo (.func 206) [] [.ptr (.ref b_o0 0 []), .ptr (.int .i64 one_a2_c1)]), (10, .int .i64 r_3.1), (7, .own u_4 (out_5.map encT)), (11, .int .i64 t11_6)]) ∧ (σ = [.cell b_o0 (enc_S_snapshot_reader r_7), .row u_4 out_5.length 114 4]) ∧ (m0 = (r_3.1 - t11_6 : Int).toNat) ∧ (lf_snapshot_take_s1_L0 kk0 rec one_a2_c1 m0 out_5 r_7 = some res)) _ ⟨[], 0, r_3.2, u7_1, _, rfl, rfl, rfl, rfl, hr⟩ ?_
    rintro n _ _ ⟨out_5, t11_6, r_7, u_4, m0, rfl, rfl, rfl, hi0, hr⟩ IH0
    refine g_int 11 rfl fun hb0 => ?_
    rcases cntStep t11_6 r_3.1 m0 hi0 with ⟨hm0, ht0⟩ | ⟨m0', hm0, ht0, hi0', hlt0⟩
    ·
     rw [hm0, lf_snapshot_take_s1_L0] at hr
     refine g_seq ?_
     refine g_run (by kernel_rfl) [(0, .d)] rfl ?_
     refine r_d rfl rfl rfl (s_cmp rfl rfl rfl rfl) ?_
     refine r_end ?_
     refine g_seq ?_
     refine g_known 12 false rfl ht0 ?_
     refine g_condF rfl ?_
     refine g_exit rfl ?_
     refine g_sub [(7, .own u_4 (out_5.map encT))] (Sub.cons' rfl (Sub.nil _)) ?_
     refine g_perm [_, _] _ ((pf0 _).trans (pf1 _ _ _)) ?_
     exact HK0 _ _ ⟨out_5, r_7, u_4, rfl, rfl, hr⟩
    ·
     rw [hm0, lf_snapshot_take_s1_L0] at hr
     refine g_seq ?_
     refine g_run (by kernel_rfl) [(0, .d)] rfl ?_
     refine r_d rfl rfl rfl (s_cmp rfl rfl rfl rfl) ?_
     refine r_end ?_
     refine g_seq ?_
     refine g_int 10 rfl fun hbN10 => ?_
     refine g_known 12 true rfl ht0 ?_
     refine g_condT rfl ?_
     refine g_skip ?_
     refine g_seq ?_
     refine g_block ?_
     refine g_run (by kernel_rfl) [(0, .d), (1, .d), (2, .w), (3, .d), (4, .w), (5, .d)] rfl ?_
     refine r_d rfl rfl rfl (s_move rfl rfl) ?_
     refine r_d rfl rfl rfl (s_move rfl rfl) ?_
     rcases bindXS hr with ⟨c_r_11, hr_11, rfl⟩ | ⟨r_11, hr_11, hr⟩
     ·
      refine r_die rfl rfl (s_callVX _ rfl rfl cl_Psnapshot_reader_args_1 .nil rfl (by exact (pf0 _)) (specX_inl (lgo_Psnapshot_reader_args_1_s1 rec IHR _ _ _ _ hr_11))) (hX _ ⟨_, rfl, rfl⟩)
     ·
      refine r_w rfl rfl rfl (s_callV _ rfl rfl cl_Psnapshot_reader_args_1 .nil rfl (by exact (pf0 _)) (specX_inr (lgo_Psnapshot_reader_args_1_s1 rec IHR _ _ _ _ hr_11))) ?_
      rintro _ _ ⟨_, ⟨rfl, rfl⟩, rfl⟩
      refine r_st ((.cell b_o0 (enc_S_snapshot_reader r_11.2)) :: _) rfl ?_
      refine r_d rfl rfl rfl (m_lit (f := encT) [.tmp 15] [r_11.1] rfl el_L_api_Term rfl rfl (by decide) (by decide) (.cons rfl (Wk.refl _) .nil) sz_encT (fun _ => rfl)) ?_
      obtain ⟨l_12, hl_12, hr⟩ := bindS hr
      refine r_w rfl rfl rfl (m_appOwn (f := encT) out_5 [r_11.1] rfl el_L_api_Term rfl rfl (asl rfl) (pf1 _ _ _) rfl sz_encT hl_12) ?_
      rintro _ _ ⟨u17_12, rfl, rfl⟩
      refine r_d rfl rfl rfl (s_assign rfl rfl) ?_
      refine r_end ?_
      refine g_inBlock ?_
      refine g_run (by kernel_rfl) [(0, .d), (1, .d)] rfl ?_
      refine r_d rfl rfl rfl (s_ar (r := t11_6 + 1) rfl rfl rfl rfl (by omega)) ?_
      refine r_d rfl rfl rfl (s_move rfl rfl) ?_
      refine r_end ?_
      refine g_sub [(2, .clo (.func 206) [] [.ptr (.ref b_o0 0 []), .ptr (.int .i64 one_a2_c1)]), (10, .int .i64 r_3.1), (7, .own u17_12 (l_12.map encT)), (11, .int .i64 (t11_6 + 1))] (Sub.cons' rfl (Sub.cons' rfl (Sub.cons' rfl (Sub.cons' rfl (Sub.nil _))))) ?_
      refine g_perm [_, _] _ ((pf0 _).trans (pf1 _ _ _)) ?_
      exact IH0 _ _ _ (by omega) ⟨l_12, (t11_6 + 1), r_11.2, u17_12, _, rfl, rfl, rfl, hi0', hr⟩

noncomputable def lf_Psnapshot_reader_args_s1 : Nat → Int → S_snapshot_reader → Option (Int ⊕ ((List T) × S_snapshot_reader))
  | 0, _, _ => none
  | fuel + 1, depth_a1, c_0 =>
    (fun (rec : Int → S_snapshot_reader → Option (Int ⊕ ((List T) × S_snapshot_reader))) =>
      (bindX (lfo_snapshot_take_s1 rec 6 depth_a1 c_0) fun r_1 =>
      some (.inr (r_1.1, r_1.2)))) (lf_Psnapshot_reader_args_s1 fuel)

set_option maxHeartbeats 1000000 in
theorem lgs_Psnapshot_reader_args_s1 (fuel : Nat) (rec : Int → S_snapshot_reader → Option (Int ⊕ ((List T) × S_snapshot_reader))) (IHR : ∀ (depth_a1 : Int) (c_0 : S_snapshot_reader) (b_o0 : Nat) (res : Int ⊕ ((List T) × S_snapshot_reader)), rec depth_a1 c_0 = some res → SpecX Tryz.prog 161 [.ref b_o0 0 [], .int .i64 depth_a1] [.cell b_o0 (enc_S_snapshot_reader c_0)] (fun d σ => ∃ r : (List T) × S_snapshot_reader, res = .inr r ∧ d = .lst (r.1.map encT) ∧ σ = [.cell b_o0 (enc_S_snapshot_reader r.2)]) (fun d => ∃ c, res = .inl c ∧ d = .ifc 191 (.agg [.int .i64 c]))) (depth_a1 : Int) (c_0 : S_snapshot_reader) (b_o0 : Nat) (res : Int ⊕ ((List T) × S_snapshot_reader))
    (hr : (bindX (lfo_snapshot_take_s1 rec 6 depth_a1 c_0) fun r_1 =>
some (.inr (r_1.1, r_1.2))) = some res) : SpecX Tryz.prog 161 [.ref b_o0 0 [], .int .i64 depth_a1] [.cell b_o0 (enc_S_snapshot_reader c_0)] (fun d σ => ∃ r : (List T) × S_snapshot_reader, res = .inr r ∧ d = .lst (r.1.map encT) ∧ σ = [.cell b_o0 (enc_S_snapshot_reader r.2)]) (fun d => ∃ c, res = .inl c ∧ d = .ifc 191 (.agg [.int .i64 c])) := by
  refine spec_envX [(0, .ref b_o0 0 []), (1, .int .i64 depth_a1)] Tryz.func161 rfl rfl fun K hK hX => ?_
  refine g_seq ?_
  refine g_run (by kernel_rfl) [(0, .d), (1, .d), (2, .d)] rfl ?_
  refine r_d rfl rfl rfl (s_box rfl rfl rfl) ?_
  refine r_d rfl rfl rfl (s_box rfl rfl rfl) ?_
  refine r_d rfl rfl rfl (s_assign rfl rfl) ?_
  refine r_end ?_
  refine g_seq ?_
  refine g_run (by kernel_rfl) [(0, .d), (1, .d), (2, .w), (3, .d)] rfl ?_
  refine r_d rfl rfl rfl (s_load rfl rfl (by exact ty_P_snapshot_reader) rfl) ?_
  refine r_d rfl rfl rfl (s_makeFunc rfl rfl rfl) ?_
  rcases bindXS hr with ⟨c_r_1, hr_1, rfl⟩ | ⟨r_1, hr_1, hr⟩
  ·
   refine r_die rfl rfl (s_callX _ rfl cl_snapshot_take_api_Term (.cons rfl (Wk.refl _) (.cons rfl (Wk.refl _) (.cons rfl (Wk.refl _) .nil))) (by exact (pf0 _)) (specX_inl (lgo_snapshot_take_s1 rec IHR _ _ _ _ _ hr_1))) (hX _ ⟨_, rfl, rfl⟩)
  ·
   refine r_w rfl rfl rfl (s_call _ rfl cl_snapshot_take_api_Term (.cons rfl (Wk.refl _) (.cons rfl (Wk.refl _) (.cons rfl (Wk.refl _) .nil))) (by exact (pf0 _)) (specX_inr (lgo_snapshot_take_s1 rec IHR _ _ _ _ _ hr_1))) ?_
   rintro _ _ ⟨_, ⟨rfl, rfl⟩, rfl⟩
   refine r_st ((.cell b_o0 (enc_S_snapshot_reader r_1.2)) :: _) rfl ?_
   refine r_d rfl rfl rfl (s_assign rfl rfl) ?_
   refine r_end ?_
   obtain rfl := Option.some.inj hr
   refine g_ret Tryz.func161 _ (.cons (resTmp rfl (Wk.refl _)) .nil) ?_
   exact ⟨_, rfl, rfl, rfl⟩
theorem lg_Psnapshot_reader_args_s1 : ∀ (fuel : Nat) (depth_a1 : Int) (c_0 : S_snapshot_reader) (b_o0 : Nat) (res : Int ⊕ ((List T) × S_snapshot_reader)), lf_Psnapshot_reader_args_s1 fuel depth_a1 c_0 = some res → SpecX Tryz.prog 161 [.ref b_o0 0 [], .int .i64 depth_a1] [.cell b_o0 (enc_S_snapshot_reader c_0)] (fun d σ => ∃ r : (List T) × S_snapshot_reader, res = .inr r ∧ d = .lst (r.1.map encT) ∧ σ = [.cell b_o0 (enc_S_snapshot_reader r.2)]) (fun d => ∃ c, res = .inl c ∧ d = .ifc 191 (.agg [.int .i64 c]))
  | 0, _, _, _, _, h => by cases h
  | fuel + 1, depth_a1, c_0, b_o0, res, h => lgs_Psnapshot_reader_args_s1 fuel (lf_Psnapshot_reader_args_s1 fuel) (lg_Psnapshot_reader_args_s1 fuel) depth_a1 c_0 b_o0 res h

noncomputable def lf_Psnapshot_reader_term_s1 (fuel : Nat) (depth_a1 : Int) (c_0 : S_snapshot_reader) : Option (Int ⊕ (T × S_snapshot_reader)) := lfo_Psnapshot_reader_term_s1 (lf_Psnapshot_reader_args_s1 fuel) depth_a1 c_0
theorem lg_Psnapshot_reader_term_s1 (fuel : Nat) (depth_a1 : Int) (c_0 : S_snapshot_reader) (b_o0 : Nat) (res : Int ⊕ (T × S_snapshot_reader)) (hr : lf_Psnapshot_reader_term_s1 fuel depth_a1 c_0 = some res) : SpecX Tryz.prog 84 [.ref b_o0 0 [], .int .i64 depth_a1] [.cell b_o0 (enc_S_snapshot_reader c_0)] (fun d σ => ∃ r : T × S_snapshot_reader, res = .inr r ∧ d = encT r.1 ∧ σ = [.cell b_o0 (enc_S_snapshot_reader r.2)]) (fun d => ∃ c, res = .inl c ∧ d = .ifc 191 (.agg [.int .i64 c])) := lgo_Psnapshot_reader_term_s1 (lf_Psnapshot_reader_args_s1 fuel) (lg_Psnapshot_reader_args_s1 fuel) depth_a1 c_0 b_o0 res hr

noncomputable def lf_Psnapshot_reader_atom_s1 (fuel : Nat) (c_0 : S_snapshot_reader) : Option (Int ⊕ (At × S_snapshot_reader)) :=
  (bindX (lf_Psnapshot_reader_text_s1 c_0) fun r_2 =>
  (bindX (lf_Psnapshot_reader_args_s1 fuel 0 r_2.2) fun r_3 =>
  some (.inr ((⟨r_2.1, r_3.1⟩ : At), r_3.2))))

set_option maxHeartbeats 1000000 in
theorem lg_Psnapshot_reader_atom_s1 (fuel : Nat) (c_0 : S_snapshot_reader) (b_o0 : Nat) (res : Int ⊕ (At × S_snapshot_reader)) (hr : lf_Psnapshot_reader_atom_s1 fuel c_0 = some res) : SpecX Tryz.prog 144 [.ref b_o0 0 []] [.cell b_o0 (enc_S_snapshot_reader c_0)] (fun d σ => ∃ r : At × S_snapshot_reader, res = .inr r ∧ d = encA r.1 ∧ σ = [.cell b_o0 (enc_S_snapshot_reader r.2)]) (fun d => ∃ c, res = .inl c ∧ d = .ifc 191 (.agg [.int .i64 c])) := by
  unfold lf_Psnapshot_reader_atom_s1 at hr
  refine spec_envX [(0, .ref b_o0 0 [])] Tryz.func144 rfl rfl fun K hK hX => ?_
  refine g_seq ?_
  refine g_run (by kernel_rfl) [(0, .w)] rfl ?_
  refine r_w rfl rfl rfl (s_alloc rfl zv_api_Atom) ?_
  rintro _ _ ⟨b2_0, rfl, rfl⟩
  refine r_end ?_
  refine g_seq ?_
  refine g_run (by kernel_rfl) [(0, .d), (1, .w), (2, .d)] rfl ?_
  refine r_d rfl rfl rfl (s_move rfl rfl) ?_
  rcases bindXS hr with ⟨c_r_2, hr_2, rfl⟩ | ⟨r_2, hr_2, hr⟩
  ·
   refine r_die rfl rfl (s_callX _ rfl cl_Psnapshot_reader_text (.cons rfl (Wk.refl _) .nil) (by exact (pf1 _ _ _)) (specX_inl (lg_Psnapshot_reader_text_s1 _ _ _ hr_2))) (hX _ ⟨_, rfl, rfl⟩)
  ·
   refine r_w rfl rfl rfl (s_call _ rfl cl_Psnapshot_reader_text (.cons rfl (Wk.refl _) .nil) (by exact (pf1 _ _ _)) (specX_inr (lg_Psnapshot_reader_text_s1 _ _ _ hr_2))) ?_
   rintro _ _ ⟨_, ⟨rfl, rfl⟩, rfl⟩
   refine r_st ((.cell b_o0 (enc_S_snapshot_reader r_2.2)) :: _) rfl ?_
   refine r_d rfl rfl rfl (s_assign rfl rfl) ?_
   refine r_end ?_
   refine g_seq ?_
   refine g_run (by kernel_rfl) [(0, .d), (1, .d), (2, .w), (3, .d), (4, .w)] rfl ?_
   refine r_d rfl rfl rfl (s_move rfl rfl) ?_
   refine r_d rfl rfl rfl (s_move rfl rfl) ?_
   rcases bindXS hr with ⟨c_r_3, hr_3, rfl⟩ | ⟨r_3, hr_3, hr⟩
   ·
    refine r_die rfl rfl (s_callX _ rfl cl_Psnapshot_reader_args (.cons rfl (Wk.refl _) (.cons rfl (Wk.refl _) .nil)) (by exact (pf0 _)) (specX_inl (lg_Psnapshot_reader_args_s1 fuel _ _ _ _ hr_3))) (hX _ ⟨_, rfl, rfl⟩)
   ·
    refine r_w rfl rfl rfl (s_call _ rfl cl_Psnapshot_reader_args (.cons rfl (Wk.refl _) (.cons rfl (Wk.refl _) .nil)) (by exact (pf0 _)) (specX_inr (lg_Psnapshot_reader_args_s1 fuel _ _ _ _ hr_3))) ?_
    rintro _ _ ⟨_, ⟨rfl, rfl⟩, rfl⟩
    refine r_st ((.cell b_o0 (enc_S_snapshot_reader r_3.2)) :: _) rfl ?_
    refine r_d rfl rfl rfl (s_build rfl bt_api_Atom (.cons rfl (Wk.refl _) (.cons rfl (Wk.refl _) .nil)) (.cons rfl rfl rfl (.cons rfl rfl rfl (.nil _)))) ?_
    refine r_w01 rfl rfl rfl (t_store0 _ rfl rfl rfl (Wk.refl _) (pf1 _ _ _) (by exact ty_api_Atom) rfl rfl rfl) ?_
    refine r_end ?_
    refine g_freeze 2 b2_0 rfl (pf0 _) ?_
    obtain rfl := Option.some.inj hr
    refine g_ret Tryz.func144 _ (.cons (resPtr rfl (by exact ty_api_Atom) rfl (Wk.refl _)) .nil) ?_
    exact ⟨_, rfl, rfl, rfl⟩

noncomputable def lf_snapshot_take_s4_L0 (k : ((List At)) → (S_snapshot_reader) → Option (Int ⊕ ((List At) × S_snapshot_reader))) (fuel : Nat) : Nat → (List At) → S_snapshot_reader → Option (Int ⊕ ((List At) × S_snapshot_reader))
  | 0, out_5, r_7 =>
  (k out_5 r_7)
  | rest + 1, out_5, r_7 =>
  (bindX (lf_Psnapshot_reader_atom_s1 fuel r_7) fun r_11 =>
  ((appO 40 out_5 [r_11.1]).bind fun l_12 =>
  (lf_snapshot_take_s4_L0 k fuel rest l_12 r_11.2)))
noncomputable def lf_snapshot_take_s4 (fuel : Nat) (most_a1 : Int) (c_0 : S_snapshot_reader) : Option (Int ⊕ ((List At) × S_snapshot_reader)) :=
  (bindX (lf_Psnapshot_reader_number_s1 0 most_a1 c_0) fun r_3 =>
  (lf_snapshot_take_s4_L0 (fun out_9 r_10 =>
  some (.inr (out_9, r_10))) fuel (r_3.1 - 0 : Int).toNat [] r_3.2))

set_option maxHeartbeats 1000000 in
theorem lg_snapshot_take_s4 (fuel : Nat) (most_a1 : Int) (c_0 : S_snapshot_reader) (b_o0 : Nat) (res : Int ⊕ ((List At) × S_snapshot_reader)) (hr : lf_snapshot_take_s4 fuel most_a1 c_0 = some res) : SpecX Tryz.prog 143 [.ref b_o0 0 [], .int .i64 most_a1, .clo (.func 144) [.ref b_o0 0 []] []] [.cell b_o0 (enc_S_snapshot_reader c_0)] (fun d σ => ∃ r : (List At) × S_snapshot_reader, res = .inr r ∧ d = .lst (r.1.map encA) ∧ σ = [.cell b_o0 (enc_S_snapshot_reader r.2)]) (fun d => ∃ c, res = .inl c ∧ d = .ifc 191 (.agg [.int .i64 c])) := by
  unfold lf_snapshot_take_s4 at hr
  refine spec_envX [(0, .ref b_o0 0 []), (1, .int .i64 most_a1), (2, .clo (.func 144) [.ref b_o0 0 []] [])] Tryz.func143 rfl rfl fun K hK hX => ?_
  refine g_seq ?_
  refine g_run (by kernel_rfl) [(0, .w)] rfl ?_
  refine r_w rfl rfl rfl (s_nilOwn 107 2 (.inl rfl)) ?_
  rintro _ _ ⟨u6_0, rfl, rfl⟩
  refine r_end ?_
  refine g_seq ?_
  refine g_run (by kernel_rfl) [(0, .w)] rfl ?_
  refine r_w rfl rfl rfl (s_nilOwn 107 2 (.inl rfl)) ?_
  rintro _ _ ⟨u7_1, rfl, rfl⟩
  refine r_end ?_
  refine g_seq ?_
  refine g_seq ?_
  refine g_run (by kernel_rfl) [(0, .d), (1, .d), (2, .w), (3, .d)] rfl ?_
  refine r_d rfl rfl rfl (s_move rfl rfl) ?_
  refine r_d rfl rfl rfl (s_move rfl rfl) ?_
  rcases bindXS hr with ⟨c_r_3, hr_3, rfl⟩ | ⟨r_3, hr_3, hr⟩
  ·
   refine r_die rfl rfl (s_callX _ rfl cl_Psnapshot_reader_number (.cons rfl (Wk.refl _) (.cons rfl (Wk.refl _) (.cons rfl (Wk.refl _) .nil))) (by exact (pf2 _ _ _ _)) (specX_inl (lg_Psnapshot_reader_number_s1 _ _ _ _ _ hr_3))) (hX _ ⟨_, rfl, rfl⟩)
  ·
   refine r_w rfl rfl rfl (s_call _ rfl cl_Psnapshot_reader_number (.cons rfl (Wk.refl _) (.cons rfl (Wk.refl _) (.cons rfl (Wk.refl _) .nil))) (by exact (pf2 _ _ _ _)) (specX_inr (lg_Psnapshot_reader_number_s1 _ _ _ _ _ hr_3))) ?_
   rintro _ _ ⟨_, ⟨rfl, rfl⟩, rfl⟩
   refine r_st ((.cell b_o0 (enc_S_snapshot_reader r_3.2)) :: _) rfl ?_
   refine r_d rfl rfl rfl (s_move rfl rfl) ?_
   refine r_end ?_
   obtain ⟨kk0, hkk0, hr⟩ := exK (fun k => lf_snapshot_take_s4_L0 k fuel (r_3.1 - 0 : Int).toNat [] r_3.2) hr
   refine g_int 10 rfl fun hla0 => ?_
   refine g_blockJ (fun env σ => ∃ (out_9 : (List At)) (r_10 : S_snapshot_reader) (u_8 : Value), env = [(7, .own u_8 (out_9.map encA))] ∧ σ = [.row u_8 out_9.length 107 2, .cell b_o0 (enc_S_snapshot_reader r_10)] ∧ kk0 out_9 r_10 = some res) ?_ (fun HK0 => ?_)
   ·
    rintro _ _ ⟨out_9, r_10, u_8, rfl, rfl, hr⟩
    rw [hkk0] at hr
    refine g_seq ?_
    refine g_run (by kernel_rfl) [(0, .d), (1, .d)] rfl ?_
    refine r_d rfl rfl rfl (s_move rfl rfl) ?_
    refine r_d rfl rfl rfl (s_assign rfl rfl) ?_
    refine r_end ?_
    refine g_perm [_] _ (pf1 _ _ _) ?_
    obtain rfl := Option.some.inj hr
    refine g_ret Tryz.func143 _ (.cons (resTmp rfl (Wk.own _ _)) .nil) ?_
    exact ⟨_, rfl, rfl, rfl⟩
   ·
    refine g_sub [(2, .clo (.func 144) [.ref b_o0 0 []] []), (10, .int .i64 r_3.1), (7, .own u7_1 ([].map encA)), (11, .int .i64 0)] (Sub.cons' rfl (Sub.cons' rfl (Sub.cons' rfl (Sub.cons' rfl (Sub.nil _))))) ?_
    refine g_perm [_, _] _ ((pf1 _ _ _).trans (pf1 _ _ _)) ?_
    refine g_loop (fun n env σ => ∃ (out_5 : (List At)) (t11_6 : Int) (r_7 : S_snapshot_reader) (u_4 : Value) (m0 : Nat), (m0 = n) ∧ (env = [(2, .clo (.func 144) [.ref b_o0 0 []] []), (10, .int .i64 r_3.1), (7, .own u_4 (out_5.map encA)), (11, .int .i64 t11_6)]) ∧ (σ = [.cell b_o0 (enc_S_snapshot_reader r_7), .row u_4 out_5.length 107 2]) ∧ (m0 = (r_3.1 - t11_6 : Int).toNat) ∧ (lf_snapshot_take_s4_L0 kk0 fuel m0 out_5 r_7 = some res)) _ ⟨[], 0, r_3.2, u7_1, _, rfl, rfl, rfl, rfl, hr⟩ ?_
    rintro n _ _ ⟨out_5, t11_6, r_7, u_4, m0, rfl, rfl, rfl, hi0, hr⟩ IH0
    refine g_int 11 rfl fun hb0 => ?_
    rcases cntStep t11_6 r_3.1 m0 hi0 with ⟨hm0, ht0⟩ | ⟨m0', hm0, ht0, hi0', hlt0⟩
    ·
     rw [hm0, lf_snapshot_take_s4_L0] at hr
     refine g_seq ?_
     refine g_run (by kernel_rfl) [(0, .d)] rfl ?_
     refine r_d rfl rfl rfl (s_cmp rfl rfl rfl rfl) ?_
     refine r_end ?_
     refine g_seq ?_
     refine g_known 12 false rfl ht0 ?_
     refine g_condF rfl ?_
     refine g_exit rfl ?_
     refine g_sub [(7, .own u_4 (out_5.map encA))] (Sub.cons' rfl (Sub.nil _)) ?_
     refine g_perm [_, _] _ ((pf0 _).trans (pf1 _ _ _)) ?_
     exact HK0 _ _ ⟨out_5, r_7, u_4, rfl, rfl, hr⟩
    ·
     rw [hm0, lf_snapshot_take_s4_L0] at hr
     refine g_seq ?_
     refine g_run (by kernel_rfl) [(0, .d)] rfl ?_
     refine r_d rfl rfl rfl (s_cmp rfl rfl rfl rfl) ?_
     refine r_end ?_
     refine g_seq ?_
     refine g_int 10 rfl fun hbN10 => ?_
     refine g_known 12 true rfl ht0 ?_
     refine g_condT rfl ?_
     refine g_skip ?_
     refine g_seq ?_
     refine g_block ?_
     refine g_run (by kernel_rfl) [(0, .d), (1, .d), (2, .w), (3, .d), (4, .w), (5, .d)] rfl ?_
     refine r_d rfl rfl rfl (s_move rfl rfl) ?_
     refine r_d rfl rfl rfl (s_move rfl rfl) ?_
     rcases bindXS hr with ⟨c_r_11, hr_11, rfl⟩ | ⟨r_11, hr_11, hr⟩
     ·
      refine r_die rfl rfl (s_callVX _ rfl rfl cl_Psnapshot_reader_atom .nil rfl (by exact (pf0 _)) (specX_inl (lg_Psnapshot_reader_atom_s1 fuel _ _ _ hr_11))) (hX _ ⟨_, rfl, rfl⟩)
     ·
      refine r_w rfl rfl rfl (s_callV _ rfl rfl cl_Psnapshot_reader_atom .nil rfl (by exact (pf0 _)) (specX_inr (lg_Psnapshot_reader_atom_s1 fuel _ _ _ hr_11))) ?_
      rintro _ _ ⟨_, ⟨rfl, rfl⟩, rfl⟩
      refine r_st ((.cell b_o0 (enc_S_snapshot_reader r_11.2)) :: _) rfl ?_
      refine r_d rfl rfl rfl (m_lit (f := encA) [.tmp 15] [r_11.1] rfl el_L_api_Atom rfl rfl (by decide) (by decide) (.cons rfl (Wk.refl _) .nil) sz_encA (fun _ => rfl)) ?_
      obtain ⟨l_12, hl_12, hr⟩ := bindS hr
      refine r_w rfl rfl rfl (m_appOwn (f := encA) out_5 [r_11.1] rfl el_L_api_Atom rfl rfl (asl rfl) (pf1 _ _ _) rfl sz_encA hl_12) ?_
      rintro _ _ ⟨u17_12, rfl, rfl⟩
      refine r_d rfl rfl rfl (s_assign rfl rfl) ?_
      refine r_end ?_
      refine g_inBlock ?_
      refine g_run (by kernel_rfl) [(0, .d), (1, .d)] rfl ?_
      refine r_d rfl rfl rfl (s_ar (r := t11_6 + 1) rfl rfl rfl rfl (by omega)) ?_
      refine r_d rfl rfl rfl (s_move rfl rfl) ?_
      refine r_end ?_
      refine g_sub [(2, .clo (.func 144) [.ref b_o0 0 []] []), (10, .int .i64 r_3.1), (7, .own u17_12 (l_12.map encA)), (11, .int .i64 (t11_6 + 1))] (Sub.cons' rfl (Sub.cons' rfl (Sub.cons' rfl (Sub.cons' rfl (Sub.nil _))))) ?_
      refine g_perm [_, _] _ ((pf0 _).trans (pf1 _ _ _)) ?_
      exact IH0 _ _ _ (by omega) ⟨l_12, (t11_6 + 1), r_11.2, u17_12, _, rfl, rfl, rfl, hi0', hr⟩

noncomputable def lf_Psnapshot_reader_goal_s1 (fuel : Nat) (c_0 : S_snapshot_reader) : Option (Int ⊕ (Gl × S_snapshot_reader)) :=
  (bindX (lf_Psnapshot_reader_number_s1 0 12 c_0) fun r_2 =>
  (bindX (lf_Psnapshot_reader_text_s1 r_2.2) fun r_3 =>
  (bindX (lf_Psnapshot_reader_args_s1 fuel 0 r_3.2) fun r_4 =>
  some (.inr ((⟨r_2.1, r_3.1, r_4.1⟩ : Gl), r_4.2)))))

set_option maxHeartbeats 1000000 in
theorem lg_Psnapshot_reader_goal_s1 (fuel : Nat) (c_0 : S_snapshot_reader) (b_o0 : Nat) (res : Int ⊕ (Gl × S_snapshot_reader)) (hr : lf_Psnapshot_reader_goal_s1 fuel c_0 = some res) : SpecX Tryz.prog 146 [.ref b_o0 0 []] [.cell b_o0 (enc_S_snapshot_reader c_0)] (fun d σ => ∃ r : Gl × S_snapshot_reader, res = .inr r ∧ d = encG r.1 ∧ σ = [.cell b_o0 (enc_S_snapshot_reader r.2)]) (fun d => ∃ c, res = .inl c ∧ d = .ifc 191 (.agg [.int .i64 c])) := by
  unfold lf_Psnapshot_reader_goal_s1 at hr
  refine spec_envX [(0, .ref b_o0 0 [])] Tryz.func146 rfl rfl fun K hK hX => ?_
  refine g_seq ?_
  refine g_run (by kernel_rfl) [(0, .w)] rfl ?_
  refine r_w rfl rfl rfl (s_alloc rfl zv_api_Goal) ?_
  rintro _ _ ⟨b2_0, rfl, rfl⟩
  refine r_end ?_
  refine g_seq ?_
  refine g_run (by kernel_rfl) [(0, .d), (1, .w), (2, .d)] rfl ?_
  refine r_d rfl rfl rfl (s_move rfl rfl) ?_
  rcases bindXS hr with ⟨c_r_2, hr_2, rfl⟩ | ⟨r_2, hr_2, hr⟩
  ·
   refine r_die rfl rfl (s_callX _ rfl cl_Psnapshot_reader_number (.cons rfl (Wk.refl _) (.cons rfl (Wk.refl _) (.cons rfl (Wk.refl _) .nil))) (by exact (pf1 _ _ _)) (specX_inl (lg_Psnapshot_reader_number_s1 _ _ _ _ _ hr_2))) (hX _ ⟨_, rfl, rfl⟩)
  ·
   refine r_w rfl rfl rfl (s_call _ rfl cl_Psnapshot_reader_number (.cons rfl (Wk.refl _) (.cons rfl (Wk.refl _) (.cons rfl (Wk.refl _) .nil))) (by exact (pf1 _ _ _)) (specX_inr (lg_Psnapshot_reader_number_s1 _ _ _ _ _ hr_2))) ?_
   rintro _ _ ⟨_, ⟨rfl, rfl⟩, rfl⟩
   refine r_st ((.cell b_o0 (enc_S_snapshot_reader r_2.2)) :: _) rfl ?_
   refine r_d rfl rfl rfl (s_assign rfl rfl) ?_
   refine r_end ?_
   refine g_seq ?_
   refine g_run (by kernel_rfl) [(0, .d), (1, .w), (2, .d)] rfl ?_
   refine r_d rfl rfl rfl (s_move rfl rfl) ?_
   rcases bindXS hr with ⟨c_r_3, hr_3, rfl⟩ | ⟨r_3, hr_3, hr⟩
   ·
    refine r_die rfl rfl (s_callX _ rfl cl_Psnapshot_reader_text (.cons rfl (Wk.refl _) .nil) (by exact (pf0 _)) (specX_inl (lg_Psnapshot_reader_text_s1 _ _ _ hr_3))) (hX _ ⟨_, rfl, rfl⟩)
   ·
    refine r_w rfl rfl rfl (s_call _ rfl cl_Psnapshot_reader_text (.cons rfl (Wk.refl _) .nil) (by exact (pf0 _)) (specX_inr (lg_Psnapshot_reader_text_s1 _ _ _ hr_3))) ?_
    rintro _ _ ⟨_, ⟨rfl, rfl⟩, rfl⟩
    refine r_st ((.cell b_o0 (enc_S_snapshot_reader r_3.2)) :: _) rfl ?_
    refine r_d rfl rfl rfl (s_assign rfl rfl) ?_
    refine r_end ?_
    refine g_seq ?_
    refine g_run (by kernel_rfl) [(0, .d), (1, .d), (2, .d), (3, .w), (4, .d), (5, .w)] rfl ?_
    refine r_d rfl rfl rfl (s_move rfl rfl) ?_
    refine r_d rfl rfl rfl (s_move rfl rfl) ?_
    refine r_d rfl rfl rfl (s_move rfl rfl) ?_
    rcases bindXS hr with ⟨c_r_4, hr_4, rfl⟩ | ⟨r_4, hr_4, hr⟩
    ·
     refine r_die rfl rfl (s_callX _ rfl cl_Psnapshot_reader_args (.cons rfl (Wk.refl _) (.cons rfl (Wk.refl _) .nil)) (by exact (pf0 _)) (specX_inl (lg_Psnapshot_reader_args_s1 fuel _ _ _ _ hr_4))) (hX _ ⟨_, rfl, rfl⟩)
    ·
     refine r_w rfl rfl rfl (s_call _ rfl cl_Psnapshot_reader_args (.cons rfl (Wk.refl _) (.cons rfl (Wk.refl _) .nil)) (by exact (pf0 _)) (specX_inr (lg_Psnapshot_reader_args_s1 fuel _ _ _ _ hr_4))) ?_
     rintro _ _ ⟨_, ⟨rfl, rfl⟩, rfl⟩
     refine r_st ((.cell b_o0 (enc_S_snapshot_reader r_4.2)) :: _) rfl ?_
     refine r_d rfl rfl rfl (s_build rfl bt_api_Goal (.cons rfl (Wk.refl _) (.cons rfl (Wk.refl _) (.cons rfl (Wk.refl _) .nil))) (.cons rfl rfl rfl (.cons rfl rfl rfl (.cons rfl rfl rfl (.nil _))))) ?_
     refine r_w01 rfl rfl rfl (t_store0 _ rfl rfl rfl (Wk.refl _) (pf1 _ _ _) (by exact ty_api_Goal) rfl rfl rfl) ?_
     refine r_end ?_
     refine g_freeze 2 b2_0 rfl (pf0 _) ?_
     obtain rfl := Option.some.inj hr
     refine g_ret Tryz.func146 _ (.cons (resPtr rfl (by exact ty_api_Goal) rfl (Wk.refl _)) .nil) ?_
     exact ⟨_, rfl, rfl, rfl⟩

noncomputable def lf_snapshot_take_s5_L0 (k : ((List Gl)) → (S_snapshot_reader) → Option (Int ⊕ ((List Gl) × S_snapshot_reader))) (fuel : Nat) : Nat → (List Gl) → S_snapshot_reader → Option (Int ⊕ ((List Gl) × S_snapshot_reader))
  | 0, out_5, r_7 =>
  (k out_5 r_7)
  | rest + 1, out_5, r_7 =>
  (bindX (lf_Psnapshot_reader_goal_s1 fuel r_7) fun r_11 =>
  ((appO 48 out_5 [r_11.1]).bind fun l_12 =>
  (lf_snapshot_take_s5_L0 k fuel rest l_12 r_11.2)))
noncomputable def lf_snapshot_take_s5 (fuel : Nat) (most_a1 : Int) (c_0 : S_snapshot_reader) : Option (Int ⊕ ((List Gl) × S_snapshot_reader)) :=
  (bindX (lf_Psnapshot_reader_number_s1 0 most_a1 c_0) fun r_3 =>
  (lf_snapshot_take_s5_L0 (fun out_9 r_10 =>
  some (.inr (out_9, r_10))) fuel (r_3.1 - 0 : Int).toNat [] r_3.2))

set_option maxHeartbeats 1000000 in
theorem lg_snapshot_take_s5 (fuel : Nat) (most_a1 : Int) (c_0 : S_snapshot_reader) (b_o0 : Nat) (res : Int ⊕ ((List Gl) × S_snapshot_reader)) (hr : lf_snapshot_take_s5 fuel most_a1 c_0 = some res) : SpecX Tryz.prog 145 [.ref b_o0 0 [], .int .i64 most_a1, .clo (.func 146) [.ref b_o0 0 []] []] [.cell b_o0 (enc_S_snapshot_reader c_0)] (fun d σ => ∃ r : (List Gl) × S_snapshot_reader, res = .inr r ∧ d = .lst (r.1.map encG) ∧ σ = [.cell b_o0 (enc_S_snapshot_reader r.2)]) (fun d => ∃ c, res = .inl c ∧ d = .ifc 191 (.agg [.int .i64 c])) := by
  unfold lf_snapshot_take_s5 at hr
  refine spec_envX [(0, .ref b_o0 0 []), (1, .int .i64 most_a1), (2, .clo (.func 146) [.ref b_o0 0 []] [])] Tryz.func145 rfl rfl fun K hK hX => ?_
  refine g_seq ?_
  refine g_run (by kernel_rfl) [(0, .w)] rfl ?_
  refine r_w rfl rfl rfl (s_nilOwn 73 3 (.inl rfl)) ?_
  rintro _ _ ⟨u6_0, rfl, rfl⟩
  refine r_end ?_
  refine g_seq ?_
  refine g_run (by kernel_rfl) [(0, .w)] rfl ?_
  refine r_w rfl rfl rfl (s_nilOwn 73 3 (.inl rfl)) ?_
  rintro _ _ ⟨u7_1, rfl, rfl⟩
  refine r_end ?_
  refine g_seq ?_
  refine g_seq ?_
  refine g_run (by kernel_rfl) [(0, .d), (1, .d), (2, .w), (3, .d)] rfl ?_
  refine r_d rfl rfl rfl (s_move rfl rfl) ?_
  refine r_d rfl rfl rfl (s_move rfl rfl) ?_
  rcases bindXS hr with ⟨c_r_3, hr_3, rfl⟩ | ⟨r_3, hr_3, hr⟩
  ·
   refine r_die rfl rfl (s_callX _ rfl cl_Psnapshot_reader_number (.cons rfl (Wk.refl _) (.cons rfl (Wk.refl _) (.cons rfl (Wk.refl _) .nil))) (by exact (pf2 _ _ _ _)) (specX_inl (lg_Psnapshot_reader_number_s1 _ _ _ _ _ hr_3))) (hX _ ⟨_, rfl, rfl⟩)
  ·
   refine r_w rfl rfl rfl (s_call _ rfl cl_Psnapshot_reader_number (.cons rfl (Wk.refl _) (.cons rfl (Wk.refl _) (.cons rfl (Wk.refl _) .nil))) (by exact (pf2 _ _ _ _)) (specX_inr (lg_Psnapshot_reader_number_s1 _ _ _ _ _ hr_3))) ?_
   rintro _ _ ⟨_, ⟨rfl, rfl⟩, rfl⟩
   refine r_st ((.cell b_o0 (enc_S_snapshot_reader r_3.2)) :: _) rfl ?_
   refine r_d rfl rfl rfl (s_move rfl rfl) ?_
   refine r_end ?_
   obtain ⟨kk0, hkk0, hr⟩ := exK (fun k => lf_snapshot_take_s5_L0 k fuel (r_3.1 - 0 : Int).toNat [] r_3.2) hr
   refine g_int 10 rfl fun hla0 => ?_
   refine g_blockJ (fun env σ => ∃ (out_9 : (List Gl)) (r_10 : S_snapshot_reader) (u_8 : Value), env = [(7, .own u_8 (out_9.map encG))] ∧ σ = [.row u_8 out_9.length 73 3, .cell b_o0 (enc_S_snapshot_reader r_10)] ∧ kk0 out_9 r_10 = some res) ?_ (fun HK0 => ?_)
   ·
    rintro _ _ ⟨out_9, r_10, u_8, rfl, rfl, hr⟩
    rw [hkk0] at hr
    refine g_seq ?_
    refine g_run (by kernel_rfl) [(0, .d), (1, .d)] rfl ?_
    refine r_d rfl rfl rfl (s_move rfl rfl) ?_
    refine r_d rfl rfl rfl (s_assign rfl rfl) ?_
    refine r_end ?_
    refine g_perm [_] _ (pf1 _ _ _) ?_
    obtain rfl := Option.some.inj hr
    refine g_ret Tryz.func145 _ (.cons (resTmp rfl (Wk.own _ _)) .nil) ?_
    exact ⟨_, rfl, rfl, rfl⟩
   ·
    refine g_sub [(2, .clo (.func 146) [.ref b_o0 0 []] []), (10, .int .i64 r_3.1), (7, .own u7_1 ([].map encG)), (11, .int .i64 0)] (Sub.cons' rfl (Sub.cons' rfl (Sub.cons' rfl (Sub.cons' rfl (Sub.nil _))))) ?_
    refine g_perm [_, _] _ ((pf1 _ _ _).trans (pf1 _ _ _)) ?_
    refine g_loop (fun n env σ => ∃ (out_5 : (List Gl)) (t11_6 : Int) (r_7 : S_snapshot_reader) (u_4 : Value) (m0 : Nat), (m0 = n) ∧ (env = [(2, .clo (.func 146) [.ref b_o0 0 []] []), (10, .int .i64 r_3.1), (7, .own u_4 (out_5.map encG)), (11, .int .i64 t11_6)]) ∧ (σ = [.cell b_o0 (enc_S_snapshot_reader r_7), .row u_4 out_5.length 73 3]) ∧ (m0 = (r_3.1 - t11_6 : Int).toNat) ∧ (lf_snapshot_take_s5_L0 kk0 fuel m0 out_5 r_7 = some res)) _ ⟨[], 0, r_3.2, u7_1, _, rfl, rfl, rfl, rfl, hr⟩ ?_
    rintro n _ _ ⟨out_5, t11_6, r_7, u_4, m0, rfl, rfl, rfl, hi0, hr⟩ IH0
    refine g_int 11 rfl fun hb0 => ?_
    rcases cntStep t11_6 r_3.1 m0 hi0 with ⟨hm0, ht0⟩ | ⟨m0', hm0, ht0, hi0', hlt0⟩
    ·
     rw [hm0, lf_snapshot_take_s5_L0] at hr
     refine g_seq ?_
     refine g_run (by kernel_rfl) [(0, .d)] rfl ?_
     refine r_d rfl rfl rfl (s_cmp rfl rfl rfl rfl) ?_
     refine r_end ?_
     refine g_seq ?_
     refine g_known 12 false rfl ht0 ?_
     refine g_condF rfl ?_
     refine g_exit rfl ?_
     refine g_sub [(7, .own u_4 (out_5.map encG))] (Sub.cons' rfl (Sub.nil _)) ?_
     refine g_perm [_, _] _ ((pf0 _).trans (pf1 _ _ _)) ?_
     exact HK0 _ _ ⟨out_5, r_7, u_4, rfl, rfl, hr⟩
    ·
     rw [hm0, lf_snapshot_take_s5_L0] at hr
     refine g_seq ?_
     refine g_run (by kernel_rfl) [(0, .d)] rfl ?_
     refine r_d rfl rfl rfl (s_cmp rfl rfl rfl rfl) ?_
     refine r_end ?_
     refine g_seq ?_
     refine g_int 10 rfl fun hbN10 => ?_
     refine g_known 12 true rfl ht0 ?_
     refine g_condT rfl ?_
     refine g_skip ?_
     refine g_seq ?_
     refine g_block ?_
     refine g_run (by kernel_rfl) [(0, .d), (1, .d), (2, .w), (3, .d), (4, .w), (5, .d)] rfl ?_
     refine r_d rfl rfl rfl (s_move rfl rfl) ?_
     refine r_d rfl rfl rfl (s_move rfl rfl) ?_
     rcases bindXS hr with ⟨c_r_11, hr_11, rfl⟩ | ⟨r_11, hr_11, hr⟩
     ·
      refine r_die rfl rfl (s_callVX _ rfl rfl cl_Psnapshot_reader_goal .nil rfl (by exact (pf0 _)) (specX_inl (lg_Psnapshot_reader_goal_s1 fuel _ _ _ hr_11))) (hX _ ⟨_, rfl, rfl⟩)
     ·
      refine r_w rfl rfl rfl (s_callV _ rfl rfl cl_Psnapshot_reader_goal .nil rfl (by exact (pf0 _)) (specX_inr (lg_Psnapshot_reader_goal_s1 fuel _ _ _ hr_11))) ?_
      rintro _ _ ⟨_, ⟨rfl, rfl⟩, rfl⟩
      refine r_st ((.cell b_o0 (enc_S_snapshot_reader r_11.2)) :: _) rfl ?_
      refine r_d rfl rfl rfl (m_lit (f := encG) [.tmp 15] [r_11.1] rfl el_L_api_Goal rfl rfl (by decide) (by decide) (.cons rfl (Wk.refl _) .nil) sz_encG (fun _ => rfl)) ?_
      obtain ⟨l_12, hl_12, hr⟩ := bindS hr
      refine r_w rfl rfl rfl (m_appOwn (f := encG) out_5 [r_11.1] rfl el_L_api_Goal rfl rfl (asl rfl) (pf1 _ _ _) rfl sz_encG hl_12) ?_
      rintro _ _ ⟨u17_12, rfl, rfl⟩
      refine r_d rfl rfl rfl (s_assign rfl rfl) ?_
      refine r_end ?_
      refine g_inBlock ?_
      refine g_run (by kernel_rfl) [(0, .d), (1, .d)] rfl ?_
      refine r_d rfl rfl rfl (s_ar (r := t11_6 + 1) rfl rfl rfl rfl (by omega)) ?_
      refine r_d rfl rfl rfl (s_move rfl rfl) ?_
      refine r_end ?_
      refine g_sub [(2, .clo (.func 146) [.ref b_o0 0 []] []), (10, .int .i64 r_3.1), (7, .own u17_12 (l_12.map encG)), (11, .int .i64 (t11_6 + 1))] (Sub.cons' rfl (Sub.cons' rfl (Sub.cons' rfl (Sub.cons' rfl (Sub.nil _))))) ?_
      refine g_perm [_, _] _ ((pf0 _).trans (pf1 _ _ _)) ?_
      exact IH0 _ _ _ (by omega) ⟨l_12, (t11_6 + 1), r_11.2, u17_12, _, rfl, rfl, rfl, hi0', hr⟩

noncomputable def lf_Psnapshot_reader_rule_s1 (fuel : Nat) (c_0 : S_snapshot_reader) : Option (Int ⊕ (S_api_Rule × S_snapshot_reader)) :=
  (bindX (lf_Psnapshot_reader_text_s1 c_0) fun r_2 =>
  (bindX (lf_snapshot_take_s4 fuel 4 r_2.2) fun r_3 =>
  (bindX (lf_snapshot_take_s4 fuel 4 r_3.2) fun r_4 =>
  (bindX (lf_snapshot_take_s5 fuel 12 r_4.2) fun r_5 =>
  (bindX (lf_snapshot_take_s5 fuel 12 r_5.2) fun r_6 =>
  (bindX (lf_Psnapshot_reader_number_s1 0 1048576 r_6.2) fun r_7 =>
  some (.inr ((⟨r_2.1, r_3.1, r_4.1, r_5.1, r_6.1, r_7.1⟩ : S_api_Rule), r_7.2))))))))

set_option maxHeartbeats 1000000 in
theorem lg_Psnapshot_reader_rule_s1 (fuel : Nat) (c_0 : S_snapshot_reader) (b_o0 : Nat) (res : Int ⊕ (S_api_Rule × S_snapshot_reader)) (hr : lf_Psnapshot_reader_rule_s1 fuel c_0 = some res) : SpecX Tryz.prog 53 [.ref b_o0 0 []] [.cell b_o0 (enc_S_snapshot_reader c_0)] (fun d σ => ∃ r : S_api_Rule × S_snapshot_reader, res = .inr r ∧ d = enc_S_api_Rule r.1 ∧ σ = [.cell b_o0 (enc_S_snapshot_reader r.2)]) (fun d => ∃ c, res = .inl c ∧ d = .ifc 191 (.agg [.int .i64 c])) := by
  unfold lf_Psnapshot_reader_rule_s1 at hr
  refine spec_envX [(0, .ref b_o0 0 [])] Tryz.func53 rfl rfl fun K hK hX => ?_
  refine g_seq ?_
  refine g_run (by kernel_rfl) [(0, .w)] rfl ?_
  refine r_w rfl rfl rfl (s_alloc rfl zv_api_Rule) ?_
  rintro _ _ ⟨b2_0, rfl, rfl⟩
  refine r_end ?_
  refine g_seq ?_
  refine g_run (by kernel_rfl) [(0, .d), (1, .w), (2, .d), (3, .w)] rfl ?_
  refine r_d rfl rfl rfl (s_move rfl rfl) ?_
  rcases bindXS hr with ⟨c_r_2, hr_2, rfl⟩ | ⟨r_2, hr_2, hr⟩
  ·
   refine r_die rfl rfl (s_callX _ rfl cl_Psnapshot_reader_text (.cons rfl (Wk.refl _) .nil) (by exact (pf1 _ _ _)) (specX_inl (lg_Psnapshot_reader_text_s1 _ _ _ hr_2))) (hX _ ⟨_, rfl, rfl⟩)
  ·
   refine r_w rfl rfl rfl (s_call _ rfl cl_Psnapshot_reader_text (.cons rfl (Wk.refl _) .nil) (by exact (pf1 _ _ _)) (specX_inr (lg_Psnapshot_reader_text_s1 _ _ _ hr_2))) ?_
   rintro _ _ ⟨_, ⟨rfl, rfl⟩, rfl⟩
   refine r_st ((.cell b_o0 (enc_S_snapshot_reader r_2.2)) :: _) rfl ?_
   refine r_d rfl rfl rfl (s_fieldRef rfl fl_api_Rule_0 rfl) ?_
   refine r_w01 rfl rfl rfl (t_store _ rfl rfl rfl (Wk.refl _) (pf1 _ _ _) rfl rfl (by exact ty_string) rfl rfl rfl) ?_
   refine r_end ?_
   refine g_seq ?_
   refine g_run (by kernel_rfl) [(0, .d), (1, .d), (2, .d), (3, .w), (4, .d), (5, .w)] rfl ?_
   refine r_d rfl rfl rfl (s_move rfl rfl) ?_
   refine r_d rfl rfl rfl (s_move rfl rfl) ?_
   refine r_d rfl rfl rfl (s_makeFunc rfl rfl rfl) ?_
   rcases bindXS hr with ⟨c_r_3, hr_3, rfl⟩ | ⟨r_3, hr_3, hr⟩
   ·
    refine r_die rfl rfl (s_callX _ rfl cl_snapshot_take_api_Atom (.cons rfl (Wk.refl _) (.cons rfl (Wk.refl _) (.cons rfl (Wk.refl _) .nil))) (by exact (pf1 _ _ _)) (specX_inl (lg_snapshot_take_s4 fuel _ _ _ _ hr_3))) (hX _ ⟨_, rfl, rfl⟩)
   ·
    refine r_w rfl rfl rfl (s_call _ rfl cl_snapshot_take_api_Atom (.cons rfl (Wk.refl _) (.cons rfl (Wk.refl _) (.cons rfl (Wk.refl _) .nil))) (by exact (pf1 _ _ _)) (specX_inr (lg_snapshot_take_s4 fuel _ _ _ _ hr_3))) ?_
    rintro _ _ ⟨_, ⟨rfl, rfl⟩, rfl⟩
    refine r_st ((.cell b_o0 (enc_S_snapshot_reader r_3.2)) :: _) rfl ?_
    refine r_d rfl rfl rfl (s_fieldRef rfl fl_api_Rule_1 rfl) ?_
    refine r_w01 rfl rfl rfl (t_store _ rfl rfl rfl (Wk.refl _) (pf1 _ _ _) rfl rfl (by exact ty_L_api_Atom) rfl rfl rfl) ?_
    refine r_end ?_
    refine g_seq ?_
    refine g_run (by kernel_rfl) [(0, .d), (1, .d), (2, .d), (3, .w), (4, .d), (5, .w)] rfl ?_
    refine r_d rfl rfl rfl (s_move rfl rfl) ?_
    refine r_d rfl rfl rfl (s_move rfl rfl) ?_
    refine r_d rfl rfl rfl (s_makeFunc rfl rfl rfl) ?_
    rcases bindXS hr with ⟨c_r_4, hr_4, rfl⟩ | ⟨r_4, hr_4, hr⟩
    ·
     refine r_die rfl rfl (s_callX _ rfl cl_snapshot_take_api_Atom (.cons rfl (Wk.refl _) (.cons rfl (Wk.refl _) (.cons rfl (Wk.refl _) .nil))) (by exact (pf1 _ _ _)) (specX_inl (lg_snapshot_take_s4 fuel _ _ _ _ hr_4))) (hX _ ⟨_, rfl, rfl⟩)
    ·
     refine r_w rfl rfl rfl (s_call _ rfl cl_snapshot_take_api_Atom (.cons rfl (Wk.refl _) (.cons rfl (Wk.refl _) (.cons rfl (Wk.refl _) .nil))) (by exact (pf1 _ _ _)) (specX_inr (lg_snapshot_take_s4 fuel _ _ _ _ hr_4))) ?_
     rintro _ _ ⟨_, ⟨rfl, rfl⟩, rfl⟩
     refine r_st ((.cell b_o0 (enc_S_snapshot_reader r_4.2)) :: _) rfl ?_
     refine r_d rfl rfl rfl (s_fieldRef rfl fl_api_Rule_2 rfl) ?_
     refine r_w01 rfl rfl rfl (t_store _ rfl rfl rfl (Wk.refl _) (pf1 _ _ _) rfl rfl (by exact ty_L_api_Atom) rfl rfl rfl) ?_
     refine r_end ?_
     refine g_seq ?_
     refine g_run (by kernel_rfl) [(0, .d), (1, .d), (2, .d), (3, .w), (4, .d), (5, .w)] rfl ?_
     refine r_d rfl rfl rfl (s_move rfl rfl) ?_
     refine r_d rfl rfl rfl (s_move rfl rfl) ?_
     refine r_d rfl rfl rfl (s_makeFunc rfl rfl rfl) ?_
     rcases bindXS hr with ⟨c_r_5, hr_5, rfl⟩ | ⟨r_5, hr_5, hr⟩
     ·
      refine r_die rfl rfl (s_callX _ rfl cl_snapshot_take_api_Goal (.cons rfl (Wk.refl _) (.cons rfl (Wk.refl _) (.cons rfl (Wk.refl _) .nil))) (by exact (pf1 _ _ _)) (specX_inl (lg_snapshot_take_s5 fuel _ _ _ _ hr_5))) (hX _ ⟨_, rfl, rfl⟩)
     ·
      refine r_w rfl rfl rfl (s_call _ rfl cl_snapshot_take_api_Goal (.cons rfl (Wk.refl _) (.cons rfl (Wk.refl _) (.cons rfl (Wk.refl _) .nil))) (by exact (pf1 _ _ _)) (specX_inr (lg_snapshot_take_s5 fuel _ _ _ _ hr_5))) ?_
      rintro _ _ ⟨_, ⟨rfl, rfl⟩, rfl⟩
      refine r_st ((.cell b_o0 (enc_S_snapshot_reader r_5.2)) :: _) rfl ?_
      refine r_d rfl rfl rfl (s_fieldRef rfl fl_api_Rule_3 rfl) ?_
      refine r_w01 rfl rfl rfl (t_store _ rfl rfl rfl (Wk.refl _) (pf1 _ _ _) rfl rfl (by exact ty_L_api_Goal) rfl rfl rfl) ?_
      refine r_end ?_
      refine g_seq ?_
      refine g_run (by kernel_rfl) [(0, .d), (1, .d), (2, .d), (3, .w), (4, .d), (5, .w)] rfl ?_
      refine r_d rfl rfl rfl (s_move rfl rfl) ?_
      refine r_d rfl rfl rfl (s_move rfl rfl) ?_
      refine r_d rfl rfl rfl (s_makeFunc rfl rfl rfl) ?_
      rcases bindXS hr with ⟨c_r_6, hr_6, rfl⟩ | ⟨r_6, hr_6, hr⟩
      ·
       refine r_die rfl rfl (s_callX _ rfl cl_snapshot_take_api_Goal (.cons rfl (Wk.refl _) (.cons rfl (Wk.refl _) (.cons rfl (Wk.refl _) .nil))) (by exact (pf1 _ _ _)) (specX_inl (lg_snapshot_take_s5 fuel _ _ _ _ hr_6))) (hX _ ⟨_, rfl, rfl⟩)
      ·
       refine r_w rfl rfl rfl (s_call _ rfl cl_snapshot_take_api_Goal (.cons rfl (Wk.refl _) (.cons rfl (Wk.refl _) (.cons rfl (Wk.refl _) .nil))) (by exact (pf1 _ _ _)) (specX_inr (lg_snapshot_take_s5 fuel _ _ _ _ hr_6))) ?_
       rintro _ _ ⟨_, ⟨rfl, rfl⟩, rfl⟩
       refine r_st ((.cell b_o0 (enc_S_snapshot_reader r_6.2)) :: _) rfl ?_
       refine r_d rfl rfl rfl (s_fieldRef rfl fl_api_Rule_4 rfl) ?_
       refine r_w01 rfl rfl rfl (t_store _ rfl rfl rfl (Wk.refl _) (pf1 _ _ _) rfl rfl (by exact ty_L_api_Goal) rfl rfl rfl) ?_
       refine r_end ?_
       refine g_seq ?_
       refine g_run (by kernel_rfl) [(0, .d), (1, .w), (2, .d), (3, .w)] rfl ?_
       refine r_d rfl rfl rfl (s_move rfl rfl) ?_
       rcases bindXS hr with ⟨c_r_7, hr_7, rfl⟩ | ⟨r_7, hr_7, hr⟩
       ·
        refine r_die rfl rfl (s_callX _ rfl cl_Psnapshot_reader_number (.cons rfl (Wk.refl _) (.cons rfl (Wk.refl _) (.cons rfl (Wk.refl _) .nil))) (by exact (pf1 _ _ _)) (specX_inl (lg_Psnapshot_reader_number_s1 _ _ _ _ _ hr_7))) (hX _ ⟨_, rfl, rfl⟩)
       ·
        refine r_w rfl rfl rfl (s_call _ rfl cl_Psnapshot_reader_number (.cons rfl (Wk.refl _) (.cons rfl (Wk.refl _) (.cons rfl (Wk.refl _) .nil))) (by exact (pf1 _ _ _)) (specX_inr (lg_Psnapshot_reader_number_s1 _ _ _ _ _ hr_7))) ?_
        rintro _ _ ⟨_, ⟨rfl, rfl⟩, rfl⟩
        refine r_st ((.cell b_o0 (enc_S_snapshot_reader r_7.2)) :: _) rfl ?_
        refine r_d rfl rfl rfl (s_fieldRef rfl fl_api_Rule_5 rfl) ?_
        refine r_w01 rfl rfl rfl (t_store _ rfl rfl rfl (Wk.refl _) (pf1 _ _ _) rfl rfl (by exact ty_int) rfl rfl rfl) ?_
        refine r_end ?_
        refine g_seq ?_
        refine g_run (by kernel_rfl) [(0, .r), (1, .w)] rfl ?_
        refine r_r rfl rfl rfl (t_loadRef rfl rfl (.head _) rfl rfl (by exact ty_api_Rule) rfl) ?_
        refine r_w01 rfl rfl rfl (t_store0 _ rfl rfl rfl (Wk.refl _) (pf0 _) (by exact ty_api_Rule) rfl rfl rfl) ?_
        refine r_end ?_
        refine g_freeze 2 b2_0 rfl (pf0 _) ?_
        obtain rfl := Option.some.inj hr
        refine g_ret Tryz.func53 _ (.cons (resPtr rfl (by exact ty_api_Rule) rfl (Wk.refl _)) .nil) ?_
        exact ⟨_, rfl, rfl, rfl⟩

noncomputable def lf_snapshot_take_s3_L0 (k : ((List S_api_Rule)) → (S_snapshot_reader) → Option (Int ⊕ ((List S_api_Rule) × S_snapshot_reader))) (fuel : Nat) : Nat → (List S_api_Rule) → S_snapshot_reader → Option (Int ⊕ ((List S_api_Rule) × S_snapshot_reader))
  | 0, out_5, r_7 =>
  (k out_5 r_7)
  | rest + 1, out_5, r_7 =>
  (bindX (lf_Psnapshot_reader_rule_s1 fuel r_7) fun r_11 =>
  ((appO 120 out_5 [r_11.1]).bind fun l_12 =>
  (lf_snapshot_take_s3_L0 k fuel rest l_12 r_11.2)))
noncomputable def lf_snapshot_take_s3 (fuel : Nat) (most_a1 : Int) (c_0 : S_snapshot_reader) : Option (Int ⊕ ((List S_api_Rule) × S_snapshot_reader)) :=
  (bindX (lf_Psnapshot_reader_number_s1 0 most_a1 c_0) fun r_3 =>
  (lf_snapshot_take_s3_L0 (fun out_9 r_10 =>
  some (.inr (out_9, r_10))) fuel (r_3.1 - 0 : Int).toNat [] r_3.2))

set_option maxHeartbeats 1000000 in
theorem lg_snapshot_take_s3 (fuel : Nat) (most_a1 : Int) (c_0 : S_snapshot_reader) (b_o0 : Nat) (res : Int ⊕ ((List S_api_Rule) × S_snapshot_reader)) (hr : lf_snapshot_take_s3 fuel most_a1 c_0 = some res) : SpecX Tryz.prog 52 [.ref b_o0 0 [], .int .i64 most_a1, .clo (.func 53) [.ref b_o0 0 []] []] [.cell b_o0 (enc_S_snapshot_reader c_0)] (fun d σ => ∃ r : (List S_api_Rule) × S_snapshot_reader, res = .inr r ∧ d = .lst (r.1.map enc_S_api_Rule) ∧ σ = [.cell b_o0 (enc_S_snapshot_reader r.2)]) (fun d => ∃ c, res = .inl c ∧ d = .ifc 191 (.agg [.int .i64 c])) := by
  unfold lf_snapshot_take_s3 at hr
  refine spec_envX [(0, .ref b_o0 0 []), (1, .int .i64 most_a1), (2, .clo (.func 53) [.ref b_o0 0 []] [])] Tryz.func52 rfl rfl fun K hK hX => ?_
  refine g_seq ?_
  refine g_run (by kernel_rfl) [(0, .w)] rfl ?_
  refine r_w rfl rfl rfl (s_nilOwn 68 6 (.inl rfl)) ?_
  rintro _ _ ⟨u6_0, rfl, rfl⟩
  refine r_end ?_
  refine g_seq ?_
  refine g_run (by kernel_rfl) [(0, .w)] rfl ?_
  refine r_w rfl rfl rfl (s_nilOwn 68 6 (.inl rfl)) ?_
  rintro _ _ ⟨u7_1, rfl, rfl⟩
  refine r_end ?_
  refine g_seq ?_
  refine g_seq ?_
  refine g_run (by kernel_rfl) [(0, .d), (1, .d), (2, .w), (3, .d)] rfl ?_
  refine r_d rfl rfl rfl (s_move rfl rfl) ?_
  refine r_d rfl rfl rfl (s_move rfl rfl) ?_
  rcases bindXS hr with ⟨c_r_3, hr_3, rfl⟩ | ⟨r_3, hr_3, hr⟩
  ·
   refine r_die rfl rfl (s_callX _ rfl cl_Psnapshot_reader_number (.cons rfl (Wk.refl _) (.cons rfl (Wk.refl _) (.cons rfl (Wk.refl _) .nil))) (by exact (pf2 _ _ _ _)) (specX_inl (lg_Psnapshot_reader_number_s1 _ _ _ _ _ hr_3))) (hX _ ⟨_, rfl, rfl⟩)
  ·
   refine r_w rfl rfl rfl (s_call _ rfl cl_Psnapshot_reader_number (.cons rfl (Wk.refl _) (.cons rfl (Wk.refl _) (.cons rfl (Wk.refl _) .nil))) (by exact (pf2 _ _ _ _)) (specX_inr (lg_Psnapshot_reader_number_s1 _ _ _ _ _ hr_3))) ?_
   rintro _ _ ⟨_, ⟨rfl, rfl⟩, rfl⟩
   refine r_st ((.cell b_o0 (enc_S_snapshot_reader r_3.2)) :: _) rfl ?_
   refine r_d rfl rfl rfl (s_move rfl rfl) ?_
   refine r_end ?_
   obtain ⟨kk0, hkk0, hr⟩ := exK (fun k => lf_snapshot_take_s3_L0 k fuel (r_3.1 - 0 : Int).toNat [] r_3.2) hr
   refine g_int 10 rfl fun hla0 => ?_
   refine g_blockJ (fun env σ => ∃ (out_9 : (List S_api_Rule)) (r_10 : S_snapshot_reader) (u_8 : Value), env = [(7, .own u_8 (out_9.map enc_S_api_Rule))] ∧ σ = [.row u_8 out_9.length 68 6, .cell b_o0 (enc_S_snapshot_reader r_10)] ∧ kk0 out_9 r_10 = some res) ?_ (fun HK0 => ?_)
   ·
    rintro _ _ ⟨out_9, r_10, u_8, rfl, rfl, hr⟩
    rw [hkk0] at hr
    refine g_seq ?_
    refine g_run (by kernel_rfl) [(0, .d), (1, .d)] rfl ?_
    refine r_d rfl rfl rfl (s_move rfl rfl) ?_
    refine r_d rfl rfl rfl (s_assign rfl rfl) ?_
    refine r_end ?_
    refine g_perm [_] _ (pf1 _ _ _) ?_
    obtain rfl := Option.some.inj hr
    refine g_ret Tryz.func52 _ (.cons (resTmp rfl (Wk.own _ _)) .nil) ?_
    exact ⟨_, rfl, rfl, rfl⟩
   ·
    refine g_sub [(2, .clo (.func 53) [.ref b_o0 0 []] []), (10, .int .i64 r_3.1), (7, .own u7_1 ([].map enc_S_api_Rule)), (11, .int .i64 0)] (Sub.cons' rfl (Sub.cons' rfl (Sub.cons' rfl (Sub.cons' rfl (Sub.nil _))))) ?_
    refine g_perm [_, _] _ ((pf1 _ _ _).trans (pf1 _ _ _)) ?_
    refine g_loop (fun n env σ => ∃ (out_5 : (List S_api_Rule)) (t11_6 : Int) (r_7 : S_snapshot_reader) (u_4 : Value) (m0 : Nat), (m0 = n) ∧ (env = [(2, .clo (.func 53) [.ref b_o0 0 []] []), (10, .int .i64 r_3.1), (7, .own u_4 (out_5.map enc_S_api_Rule)), (11, .int .i64 t11_6)]) ∧ (σ = [.cell b_o0 (enc_S_snapshot_reader r_7), .row u_4 out_5.length 68 6]) ∧ (m0 = (r_3.1 - t11_6 : Int).toNat) ∧ (lf_snapshot_take_s3_L0 kk0 fuel m0 out_5 r_7 = some res)) _ ⟨[], 0, r_3.2, u7_1, _, rfl, rfl, rfl, rfl, hr⟩ ?_
    rintro n _ _ ⟨out_5, t11_6, r_7, u_4, m0, rfl, rfl, rfl, hi0, hr⟩ IH0
    refine g_int 11 rfl fun hb0 => ?_
    rcases cntStep t11_6 r_3.1 m0 hi0 with ⟨hm0, ht0⟩ | ⟨m0', hm0, ht0, hi0', hlt0⟩
    ·
     rw [hm0, lf_snapshot_take_s3_L0] at hr
     refine g_seq ?_
     refine g_run (by kernel_rfl) [(0, .d)] rfl ?_
     refine r_d rfl rfl rfl (s_cmp rfl rfl rfl rfl) ?_
     refine r_end ?_
     refine g_seq ?_
     refine g_known 12 false rfl ht0 ?_
     refine g_condF rfl ?_
     refine g_exit rfl ?_
     refine g_sub [(7, .own u_4 (out_5.map enc_S_api_Rule))] (Sub.cons' rfl (Sub.nil _)) ?_
     refine g_perm [_, _] _ ((pf0 _).trans (pf1 _ _ _)) ?_
     exact HK0 _ _ ⟨out_5, r_7, u_4, rfl, rfl, hr⟩
    ·
     rw [hm0, lf_snapshot_take_s3_L0] at hr
     refine g_seq ?_
     refine g_run (by kernel_rfl) [(0, .d)] rfl ?_
     refine r_d rfl rfl rfl (s_cmp rfl rfl rfl rfl) ?_
     refine r_end ?_
     refine g_seq ?_
     refine g_int 10 rfl fun hbN10 => ?_
     refine g_known 12 true rfl ht0 ?_
     refine g_condT rfl ?_
     refine g_skip ?_
     refine g_seq ?_
     refine g_block ?_
     refine g_run (by kernel_rfl) [(0, .d), (1, .d), (2, .w), (3, .d), (4, .w), (5, .d)] rfl ?_
     refine r_d rfl rfl rfl (s_move rfl rfl) ?_
     refine r_d rfl rfl rfl (s_move rfl rfl) ?_
     rcases bindXS hr with ⟨c_r_11, hr_11, rfl⟩ | ⟨r_11, hr_11, hr⟩
     ·
      refine r_die rfl rfl (s_callVX _ rfl rfl cl_Psnapshot_reader_rule .nil rfl (by exact (pf0 _)) (specX_inl (lg_Psnapshot_reader_rule_s1 fuel _ _ _ hr_11))) (hX _ ⟨_, rfl, rfl⟩)
     ·
      refine r_w rfl rfl rfl (s_callV _ rfl rfl cl_Psnapshot_reader_rule .nil rfl (by exact (pf0 _)) (specX_inr (lg_Psnapshot_reader_rule_s1 fuel _ _ _ hr_11))) ?_
      rintro _ _ ⟨_, ⟨rfl, rfl⟩, rfl⟩
      refine r_st ((.cell b_o0 (enc_S_snapshot_reader r_11.2)) :: _) rfl ?_
      refine r_d rfl rfl rfl (m_lit (f := enc_S_api_Rule) [.tmp 15] [r_11.1] rfl el_L_api_Rule rfl rfl (by decide) (by decide) (.cons rfl (Wk.refl _) .nil) sz_S_api_Rule (fun _ => rfl)) ?_
      obtain ⟨l_12, hl_12, hr⟩ := bindS hr
      refine r_w rfl rfl rfl (m_appOwn (f := enc_S_api_Rule) out_5 [r_11.1] rfl el_L_api_Rule rfl rfl (asl rfl) (pf1 _ _ _) rfl sz_S_api_Rule hl_12) ?_
      rintro _ _ ⟨u17_12, rfl, rfl⟩
      refine r_d rfl rfl rfl (s_assign rfl rfl) ?_
      refine r_end ?_
      refine g_inBlock ?_
      refine g_run (by kernel_rfl) [(0, .d), (1, .d)] rfl ?_
      refine r_d rfl rfl rfl (s_ar (r := t11_6 + 1) rfl rfl rfl rfl (by omega)) ?_
      refine r_d rfl rfl rfl (s_move rfl rfl) ?_
      refine r_end ?_
      refine g_sub [(2, .clo (.func 53) [.ref b_o0 0 []] []), (10, .int .i64 r_3.1), (7, .own u17_12 (l_12.map enc_S_api_Rule)), (11, .int .i64 (t11_6 + 1))] (Sub.cons' rfl (Sub.cons' rfl (Sub.cons' rfl (Sub.cons' rfl (Sub.nil _))))) ?_
      refine g_perm [_, _] _ ((pf0 _).trans (pf1 _ _ _)) ?_
      exact IH0 _ _ _ (by omega) ⟨l_12, (t11_6 + 1), r_11.2, u17_12, _, rfl, rfl, rfl, hi0', hr⟩

noncomputable def lf_snapshot_TakeProgram_1_s1 (fuel : Nat) (c_0 : S_snapshot_reader) : Option (Int ⊕ (S_api_Program × S_snapshot_reader)) :=
  (bindX (lf_snapshot_take_s2 30 c_0) fun r_2 =>
  (bindX (lf_snapshot_take_s3 fuel 40 r_2.2) fun r_3 =>
  some (.inr ((⟨r_2.1, r_3.1⟩ : S_api_Program), r_3.2))))

set_option maxHeartbeats 1000000 in
theorem lg_snapshot_TakeProgram_1_s1 (fuel : Nat) (c_0 : S_snapshot_reader) (b_o0 : Nat) (res : Int ⊕ (S_api_Program × S_snapshot_reader)) (hr : lf_snapshot_TakeProgram_1_s1 fuel c_0 = some res) : SpecX Tryz.prog 47 [.ref b_o0 0 []] [.cell b_o0 (enc_S_snapshot_reader c_0)] (fun d σ => ∃ r : S_api_Program × S_snapshot_reader, res = .inr r ∧ d = enc_S_api_Program r.1 ∧ σ = [.cell b_o0 (enc_S_snapshot_reader r.2)]) (fun d => ∃ c, res = .inl c ∧ d = .ifc 191 (.agg [.int .i64 c])) := by
  unfold lf_snapshot_TakeProgram_1_s1 at hr
  refine spec_envX [(0, .ref b_o0 0 [])] Tryz.func47 rfl rfl fun K hK hX => ?_
  refine g_seq ?_
  refine g_run (by kernel_rfl) [(0, .d), (1, .w)] rfl ?_
  refine r_d rfl rfl rfl (s_box rfl rfl rfl) ?_
  refine r_w rfl rfl rfl (s_alloc rfl zv_api_Program) ?_
  rintro _ _ ⟨b2_0, rfl, rfl⟩
  refine r_end ?_
  refine g_seq ?_
  refine g_run (by kernel_rfl) [(0, .d), (1, .d), (2, .w), (3, .d), (4, .w)] rfl ?_
  refine r_d rfl rfl rfl (s_load rfl rfl (by exact ty_P_snapshot_reader) rfl) ?_
  refine r_d rfl rfl rfl (s_makeFunc rfl rfl rfl) ?_
  rcases bindXS hr with ⟨c_r_2, hr_2, rfl⟩ | ⟨r_2, hr_2, hr⟩
  ·
   refine r_die rfl rfl (s_callX _ rfl cl_snapshot_take_api_Decl (.cons rfl (Wk.refl _) (.cons rfl (Wk.refl _) (.cons rfl (Wk.refl _) .nil))) (by exact (pf1 _ _ _)) (specX_inl (lg_snapshot_take_s2 _ _ _ _ hr_2))) (hX _ ⟨_, rfl, rfl⟩)
  ·
   refine r_w rfl rfl rfl (s_call _ rfl cl_snapshot_take_api_Decl (.cons rfl (Wk.refl _) (.cons rfl (Wk.refl _) (.cons rfl (Wk.refl _) .nil))) (by exact (pf1 _ _ _)) (specX_inr (lg_snapshot_take_s2 _ _ _ _ hr_2))) ?_
   rintro _ _ ⟨_, ⟨rfl, rfl⟩, rfl⟩
   refine r_st ((.cell b_o0 (enc_S_snapshot_reader r_2.2)) :: _) rfl ?_
   refine r_d rfl rfl rfl (s_fieldRef rfl fl_api_Program_0 rfl) ?_
   refine r_w01 rfl rfl rfl (t_store _ rfl rfl rfl (Wk.refl _) (pf1 _ _ _) rfl rfl (by exact ty_L_api_Decl) rfl rfl rfl) ?_
   refine r_end ?_
   refine g_seq ?_
   refine g_run (by kernel_rfl) [(0, .d), (1, .d), (2, .d), (3, .w), (4, .d), (5, .w)] rfl ?_
   refine r_d rfl rfl rfl (s_load rfl rfl (by exact ty_P_snapshot_reader) rfl) ?_
   refine r_d rfl rfl rfl (s_load rfl rfl (by exact ty_P_snapshot_reader) rfl) ?_
   refine r_d rfl rfl rfl (s_makeFunc rfl rfl rfl) ?_
   rcases bindXS hr with ⟨c_r_3, hr_3, rfl⟩ | ⟨r_3, hr_3, hr⟩
   ·
    refine r_die rfl rfl (s_callX _ rfl cl_snapshot_take_api_Rule (.cons rfl (Wk.refl _) (.cons rfl (Wk.refl _) (.cons rfl (Wk.refl _) .nil))) (by exact (pf1 _ _ _)) (specX_inl (lg_snapshot_take_s3 fuel _ _ _ _ hr_3))) (hX _ ⟨_, rfl, rfl⟩)
   ·
    refine r_w rfl rfl rfl (s_call _ rfl cl_snapshot_take_api_Rule (.cons rfl (Wk.refl _) (.cons rfl (Wk.refl _) (.cons rfl (Wk.refl _) .nil))) (by exact (pf1 _ _ _)) (specX_inr (lg_snapshot_take_s3 fuel _ _ _ _ hr_3))) ?_
    rintro _ _ ⟨_, ⟨rfl, rfl⟩, rfl⟩
    refine r_st ((.cell b_o0 (enc_S_snapshot_reader r_3.2)) :: _) rfl ?_
    refine r_d rfl rfl rfl (s_fieldRef rfl fl_api_Program_1 rfl) ?_
    refine r_w01 rfl rfl rfl (t_store _ rfl rfl rfl (Wk.refl _) (pf1 _ _ _) rfl rfl (by exact ty_L_api_Rule) rfl rfl rfl) ?_
    refine r_end ?_
    refine g_seq ?_
    refine g_run (by kernel_rfl) [(0, .r), (1, .w)] rfl ?_
    refine r_r rfl rfl rfl (t_loadRef rfl rfl (.head _) rfl rfl (by exact ty_api_Program) rfl) ?_
    refine r_w01 rfl rfl rfl (t_store0 _ rfl rfl rfl (Wk.refl _) (pf0 _) (by exact ty_api_Program) rfl rfl rfl) ?_
    refine r_end ?_
    refine g_freeze 2 b2_0 rfl (pf0 _) ?_
    obtain rfl := Option.some.inj hr
    refine g_ret Tryz.func47 _ (.cons (resPtr rfl (by exact ty_api_Program) rfl (Wk.refl _)) .nil) ?_
    exact ⟨_, rfl, rfl, rfl⟩

noncomputable def lf_Psnapshot_reader_frame_s1 (fuel : Nat) (c_0 : S_snapshot_reader) : Option (Int ⊕ (S_api_Frame × S_snapshot_reader)) :=
  (bindX (lf_Psnapshot_reader_number_s1 0 2147483648 c_0) fun r_2 =>
  (bindX (lf_Psnapshot_reader_number_s1 (-1) 2147483648 r_2.2) fun r_3 =>
  (bif (r_2.1 == (0 : Int)) then
  (bindX (lf_Psnapshot_reader_goal_s1 fuel r_3.2) fun r_5 =>
  some (.inr ((⟨r_5.1, r_2.1, r_3.1⟩ : S_api_Frame), r_5.2)))
  else
  some (.inr ((⟨(⟨0, ⟨#[]⟩, []⟩ : Gl), r_2.1, r_3.1⟩ : S_api_Frame), r_3.2)))))

set_option maxHeartbeats 1000000 in
theorem lg_Psnapshot_reader_frame_s1 (fuel : Nat) (c_0 : S_snapshot_reader) (b_o0 : Nat) (res : Int ⊕ (S_api_Frame × S_snapshot_reader)) (hr : lf_Psnapshot_reader_frame_s1 fuel c_0 = some res) : SpecX Tryz.prog 79 [.ref b_o0 0 []] [.cell b_o0 (enc_S_snapshot_reader c_0)] (fun d σ => ∃ r : S_api_Frame × S_snapshot_reader, res = .inr r ∧ d = enc_S_api_Frame r.1 ∧ σ = [.cell b_o0 (enc_S_snapshot_reader r.2)]) (fun d => ∃ c, res = .inl c ∧ d = .ifc 191 (.agg [.int .i64 c])) := by
  unfold lf_Psnapshot_reader_frame_s1 at hr
  refine spec_envX [(0, .ref b_o0 0 [])] Tryz.func79 rfl rfl fun K hK hX => ?_
  refine g_seq ?_
  refine g_run (by kernel_rfl) [(0, .w)] rfl ?_
  refine r_w rfl rfl rfl (s_alloc rfl zv_api_Frame) ?_
  rintro _ _ ⟨b2_0, rfl, rfl⟩
  refine r_end ?_
  refine g_seq ?_
  refine g_run (by kernel_rfl) [(0, .d), (1, .w), (2, .d), (3, .w)] rfl ?_
  refine r_d rfl rfl rfl (s_move rfl rfl) ?_
  rcases bindXS hr with ⟨c_r_2, hr_2, rfl⟩ | ⟨r_2, hr_2, hr⟩
  ·
   refine r_die rfl rfl (s_callX _ rfl cl_Psnapshot_reader_number (.cons rfl (Wk.refl _) (.cons rfl (Wk.refl _) (.cons rfl (Wk.refl _) .nil))) (by exact (pf1 _ _ _)) (specX_inl (lg_Psnapshot_reader_number_s1 _ _ _ _ _ hr_2))) (hX _ ⟨_, rfl, rfl⟩)
  ·
   refine r_w rfl rfl rfl (s_call _ rfl cl_Psnapshot_reader_number (.cons rfl (Wk.refl _) (.cons rfl (Wk.refl _) (.cons rfl (Wk.refl _) .nil))) (by exact (pf1 _ _ _)) (specX_inr (lg_Psnapshot_reader_number_s1 _ _ _ _ _ hr_2))) ?_
   rintro _ _ ⟨_, ⟨rfl, rfl⟩, rfl⟩
   refine r_st ((.cell b_o0 (enc_S_snapshot_reader r_2.2)) :: _) rfl ?_
   refine r_d rfl rfl rfl (s_fieldRef rfl fl_api_Frame_1 rfl) ?_
   refine r_w01 rfl rfl rfl (t_store _ rfl rfl rfl (Wk.refl _) (pf1 _ _ _) rfl (by first | rfl | simp [offD, szs, sz, szs_fsT, sz_encA, sz_encG]) (by exact ty_int) rfl rfl rfl) ?_
   refine r_end ?_
   refine g_seq ?_
   refine g_run (by kernel_rfl) [(0, .d), (1, .w), (2, .d), (3, .w)] rfl ?_
   refine r_d rfl rfl rfl (s_move rfl rfl) ?_
   rcases bindXS hr with ⟨c_r_3, hr_3, rfl⟩ | ⟨r_3, hr_3, hr⟩
   ·
    refine r_die rfl rfl (s_callX _ rfl cl_Psnapshot_reader_number (.cons rfl (Wk.refl _) (.cons rfl (Wk.refl _) (.cons rfl (Wk.refl _) .nil))) (by exact (pf1 _ _ _)) (specX_inl (lg_Psnapshot_reader_number_s1 _ _ _ _ _ hr_3))) (hX _ ⟨_, rfl, rfl⟩)
   ·
    refine r_w rfl rfl rfl (s_call _ rfl cl_Psnapshot_reader_number (.cons rfl (Wk.refl _) (.cons rfl (Wk.refl _) (.cons rfl (Wk.refl _) .nil))) (by exact (pf1 _ _ _)) (specX_inr (lg_Psnapshot_reader_number_s1 _ _ _ _ _ hr_3))) ?_
    rintro _ _ ⟨_, ⟨rfl, rfl⟩, rfl⟩
    refine r_st ((.cell b_o0 (enc_S_snapshot_reader r_3.2)) :: _) rfl ?_
    refine r_d rfl rfl rfl (s_fieldRef rfl fl_api_Frame_2 rfl) ?_
    refine r_w01 rfl rfl rfl (t_store _ rfl rfl rfl (Wk.refl _) (pf1 _ _ _) rfl (by first | rfl | simp [offD, szs, sz, szs_fsT, sz_encA, sz_encG]) (by exact ty_int) rfl rfl rfl) ?_
    refine r_end ?_
    refine g_seq ?_
    refine g_seq ?_
    refine g_run (by kernel_rfl) [(0, .d), (1, .r), (2, .d)] rfl ?_
    refine r_d rfl rfl rfl (s_fieldRef rfl fl_api_Frame_1 rfl) ?_
    refine r_r rfl rfl rfl (t_loadRef rfl rfl (.head _) rfl (by first | rfl | simp [offD, szs, sz, szs_fsT, sz_encA, sz_encG]) (by exact ty_int) rfl) ?_
    refine r_d rfl rfl rfl (s_cmp rfl rfl rfl rfl) ?_
    refine r_end ?_
    refine g_sB 11 rfl hr (fun h11_3 hr => ?_) (fun h11_3 hr => ?_)
    ·
     refine g_condT rfl ?_
     refine g_run (by kernel_rfl) [(0, .d), (1, .w), (2, .d), (3, .w)] rfl ?_
     refine r_d rfl rfl rfl (s_move rfl rfl) ?_
     rcases bindXS hr with ⟨c_r_5, hr_5, rfl⟩ | ⟨r_5, hr_5, hr⟩
     ·
      refine r_die rfl rfl (s_callX _ rfl cl_Psnapshot_reader_goal (.cons rfl (Wk.refl _) .nil) (by exact (pf1 _ _ _)) (specX_inl (lg_Psnapshot_reader_goal_s1 fuel _ _ _ hr_5))) (hX _ ⟨_, rfl, rfl⟩)
     ·
      refine r_w rfl rfl rfl (s_call _ rfl cl_Psnapshot_reader_goal (.cons rfl (Wk.refl _) .nil) (by exact (pf1 _ _ _)) (specX_inr (lg_Psnapshot_reader_goal_s1 fuel _ _ _ hr_5))) ?_
      rintro _ _ ⟨_, ⟨rfl, rfl⟩, rfl⟩
      refine r_st ((.cell b_o0 (enc_S_snapshot_reader r_5.2)) :: _) rfl ?_
      refine r_d rfl rfl rfl (s_fieldRef rfl fl_api_Frame_0 rfl) ?_
      refine r_w01 rfl rfl rfl (t_store _ rfl rfl rfl (Wk.refl _) (pf1 _ _ _) rfl (by first | rfl | simp [offD, szs, sz, szs_fsT, sz_encA, sz_encG]) (by exact ty_api_Goal) (sz_encG _) rfl rfl) ?_
      refine r_end ?_
      refine g_seq ?_
      refine g_run (by kernel_rfl) [(0, .r), (1, .w)] rfl ?_
      refine r_r rfl rfl rfl (t_loadRef rfl rfl (.head _) rfl rfl (by exact ty_api_Frame) (by first | rfl | simp [sz, szs, szs_fsT, sz_encG])) ?_
      refine r_w01 rfl rfl rfl (t_store0 _ rfl rfl rfl (Wk.refl _) (pf0 _) (by exact ty_api_Frame) (by first | rfl | simp [sz, szs, szs_fsT, sz_encG]) (by first | rfl | simp [sz, szs, szs_fsT, sz_encG]) rfl) ?_
      refine r_end ?_
      refine g_freeze 2 b2_0 rfl (pf0 _) ?_
      obtain rfl := Option.some.inj hr
      refine g_ret Tryz.func79 _ (.cons (resPtr rfl (by exact ty_api_Frame) (by first | rfl | simp [sz, szs, szs_fsT, sz_encG]) (Wk.refl _)) .nil) ?_
      exact ⟨_, rfl, rfl, rfl⟩
    ·
     refine g_condF rfl ?_
     refine g_skip ?_
     refine g_seq ?_
     refine g_run (by kernel_rfl) [(0, .r), (1, .w)] rfl ?_
     refine r_r rfl rfl rfl (t_loadRef rfl rfl (.head _) rfl rfl (by exact ty_api_Frame) (by first | rfl | simp [sz, szs, szs_fsT, sz_encG])) ?_
     refine r_w01 rfl rfl rfl (t_store0 _ rfl rfl rfl (Wk.refl _) (pf0 _) (by exact ty_api_Frame) (by first | rfl | simp [sz, szs, szs_fsT, sz_encG]) (by first | rfl | simp [sz, szs, szs_fsT, sz_encG]) rfl) ?_
     refine r_end ?_
     refine g_freeze 2 b2_0 rfl (pf0 _) ?_
     obtain rfl := Option.some.inj hr
     refine g_ret Tryz.func79 _ (.cons (resPtr rfl (by exact ty_api_Frame) (by first | rfl | simp [sz, szs, szs_fsT, sz_encG]) (Wk.refl _)) .nil) ?_
     exact ⟨_, rfl, rfl, rfl⟩

noncomputable def lf_snapshot_take_s6_L0 (k : ((List S_api_Frame)) → (S_snapshot_reader) → Option (Int ⊕ ((List S_api_Frame) × S_snapshot_reader))) (fuel : Nat) : Nat → (List S_api_Frame) → S_snapshot_reader → Option (Int ⊕ ((List S_api_Frame) × S_snapshot_reader))
  | 0, out_5, r_7 =>
  (k out_5 r_7)
  | rest + 1, out_5, r_7 =>
  (bindX (lf_Psnapshot_reader_frame_s1 fuel r_7) fun r_11 =>
  ((appO 64 out_5 [r_11.1]).bind fun l_12 =>
  (lf_snapshot_take_s6_L0 k fuel rest l_12 r_11.2)))
noncomputable def lf_snapshot_take_s6 (fuel : Nat) (most_a1 : Int) (c_0 : S_snapshot_reader) : Option (Int ⊕ ((List S_api_Frame) × S_snapshot_reader)) :=
  (bindX (lf_Psnapshot_reader_number_s1 0 most_a1 c_0) fun r_3 =>
  (lf_snapshot_take_s6_L0 (fun out_9 r_10 =>
  some (.inr (out_9, r_10))) fuel (r_3.1 - 0 : Int).toNat [] r_3.2))

set_option maxHeartbeats 1000000 in
theorem lg_snapshot_take_s6 (fuel : Nat) (most_a1 : Int) (c_0 : S_snapshot_reader) (b_o0 : Nat) (res : Int ⊕ ((List S_api_Frame) × S_snapshot_reader)) (hr : lf_snapshot_take_s6 fuel most_a1 c_0 = some res) : SpecX Tryz.prog 78 [.ref b_o0 0 [], .int .i64 most_a1, .clo (.func 79) [.ref b_o0 0 []] []] [.cell b_o0 (enc_S_snapshot_reader c_0)] (fun d σ => ∃ r : (List S_api_Frame) × S_snapshot_reader, res = .inr r ∧ d = .lst (r.1.map enc_S_api_Frame) ∧ σ = [.cell b_o0 (enc_S_snapshot_reader r.2)]) (fun d => ∃ c, res = .inl c ∧ d = .ifc 191 (.agg [.int .i64 c])) := by
  unfold lf_snapshot_take_s6 at hr
  refine spec_envX [(0, .ref b_o0 0 []), (1, .int .i64 most_a1), (2, .clo (.func 79) [.ref b_o0 0 []] [])] Tryz.func78 rfl rfl fun K hK hX => ?_
  refine g_seq ?_
  refine g_run (by kernel_rfl) [(0, .w)] rfl ?_
  refine r_w rfl rfl rfl (s_nilOwn 75 5 (.inl rfl)) ?_
  rintro _ _ ⟨u6_0, rfl, rfl⟩
  refine r_end ?_
  refine g_seq ?_
  refine g_run (by kernel_rfl) [(0, .w)] rfl ?_
  refine r_w rfl rfl rfl (s_nilOwn 75 5 (.inl rfl)) ?_
  rintro _ _ ⟨u7_1, rfl, rfl⟩
  refine r_end ?_
  refine g_seq ?_
  refine g_seq ?_
  refine g_run (by kernel_rfl) [(0, .d), (1, .d), (2, .w), (3, .d)] rfl ?_
  refine r_d rfl rfl rfl (s_move rfl rfl) ?_
  refine r_d rfl rfl rfl (s_move rfl rfl) ?_
  rcases bindXS hr with ⟨c_r_3, hr_3, rfl⟩ | ⟨r_3, hr_3, hr⟩
  ·
   refine r_die rfl rfl (s_callX _ rfl cl_Psnapshot_reader_number (.cons rfl (Wk.refl _) (.cons rfl (Wk.refl _) (.cons rfl (Wk.refl _) .nil))) (by exact (pf2 _ _ _ _)) (specX_inl (lg_Psnapshot_reader_number_s1 _ _ _ _ _ hr_3))) (hX _ ⟨_, rfl, rfl⟩)
  ·
   refine r_w rfl rfl rfl (s_call _ rfl cl_Psnapshot_reader_number (.cons rfl (Wk.refl _) (.cons rfl (Wk.refl _) (.cons rfl (Wk.refl _) .nil))) (by exact (pf2 _ _ _ _)) (specX_inr (lg_Psnapshot_reader_number_s1 _ _ _ _ _ hr_3))) ?_
   rintro _ _ ⟨_, ⟨rfl, rfl⟩, rfl⟩
   refine r_st ((.cell b_o0 (enc_S_snapshot_reader r_3.2)) :: _) rfl ?_
   refine r_d rfl rfl rfl (s_move rfl rfl) ?_
   refine r_end ?_
   obtain ⟨kk0, hkk0, hr⟩ := exK (fun k => lf_snapshot_take_s6_L0 k fuel (r_3.1 - 0 : Int).toNat [] r_3.2) hr
   refine g_int 10 rfl fun hla0 => ?_
   refine g_blockJ (fun env σ => ∃ (out_9 : (List S_api_Frame)) (r_10 : S_snapshot_reader) (u_8 : Value), env = [(7, .own u_8 (out_9.map enc_S_api_Frame))] ∧ σ = [.row u_8 out_9.length 75 5, .cell b_o0 (enc_S_snapshot_reader r_10)] ∧ kk0 out_9 r_10 = some res) ?_ (fun HK0 => ?_)
   ·
    rintro _ _ ⟨out_9, r_10, u_8, rfl, rfl, hr⟩
    rw [hkk0] at hr
    refine g_seq ?_
    refine g_run (by kernel_rfl) [(0, .d), (1, .d)] rfl ?_
    refine r_d rfl rfl rfl (s_move rfl rfl) ?_
    refine r_d rfl rfl rfl (s_assign rfl rfl) ?_
    refine r_end ?_
    refine g_perm [_] _ (pf1 _ _ _) ?_
    obtain rfl := Option.some.inj hr
    refine g_ret Tryz.func78 _ (.cons (resTmp rfl (Wk.own _ _)) .nil) ?_
    exact ⟨_, rfl, rfl, rfl⟩
   ·
    refine g_sub [(2, .clo (.func 79) [.ref b_o0 0 []] []), (10, .int .i64 r_3.1), (7, .own u7_1 ([].map enc_S_api_Frame)), (11, .int .i64 0)] (Sub.cons' rfl (Sub.cons' rfl (Sub.cons' rfl (Sub.cons' rfl (Sub.nil _))))) ?_
    refine g_perm [_, _] _ ((pf1 _ _ _).trans (pf1 _ _ _)) ?_
    refine g_loop (fun n env σ => ∃ (out_5 : (List S_api_Frame)) (t11_6 : Int) (r_7 : S_snapshot_reader) (u_4 : Value) (m0 : Nat), (m0 = n) ∧ (env = [(2, .clo (.func 79) [.ref b_o0 0 []] []), (10, .int .i64 r_3.1), (7, .own u_4 (out_5.map enc_S_api_Frame)), (11, .int .i64 t11_6)]) ∧ (σ = [.cell b_o0 (enc_S_snapshot_reader r_7), .row u_4 out_5.length 75 5]) ∧ (m0 = (r_3.1 - t11_6 : Int).toNat) ∧ (lf_snapshot_take_s6_L0 kk0 fuel m0 out_5 r_7 = some res)) _ ⟨[], 0, r_3.2, u7_1, _, rfl, rfl, rfl, rfl, hr⟩ ?_
    rintro n _ _ ⟨out_5, t11_6, r_7, u_4, m0, rfl, rfl, rfl, hi0, hr⟩ IH0
    refine g_int 11 rfl fun hb0 => ?_
    rcases cntStep t11_6 r_3.1 m0 hi0 with ⟨hm0, ht0⟩ | ⟨m0', hm0, ht0, hi0', hlt0⟩
    ·
     rw [hm0, lf_snapshot_take_s6_L0] at hr
     refine g_seq ?_
     refine g_run (by kernel_rfl) [(0, .d)] rfl ?_
     refine r_d rfl rfl rfl (s_cmp rfl rfl rfl rfl) ?_
     refine r_end ?_
     refine g_seq ?_
     refine g_known 12 false rfl ht0 ?_
     refine g_condF rfl ?_
     refine g_exit rfl ?_
     refine g_sub [(7, .own u_4 (out_5.map enc_S_api_Frame))] (Sub.cons' rfl (Sub.nil _)) ?_
     refine g_perm [_, _] _ ((pf0 _).trans (pf1 _ _ _)) ?_
     exact HK0 _ _ ⟨out_5, r_7, u_4, rfl, rfl, hr⟩
    ·
     rw [hm0, lf_snapshot_take_s6_L0] at hr
     refine g_seq ?_
     refine g_run (by kernel_rfl) [(0, .d)] rfl ?_
     refine r_d rfl rfl rfl (s_cmp rfl rfl rfl rfl) ?_
     refine r_end ?_
     refine g_seq ?_
     refine g_int 10 rfl fun hbN10 => ?_
     refine g_known 12 true rfl ht0 ?_
     refine g_condT rfl ?_
     refine g_skip ?_
     refine g_seq ?_
     refine g_block ?_
     refine g_run (by kernel_rfl) [(0, .d), (1, .d), (2, .w), (3, .d), (4, .w), (5, .d)] rfl ?_
     refine r_d rfl rfl rfl (s_move rfl rfl) ?_
     refine r_d rfl rfl rfl (s_move rfl rfl) ?_
     rcases bindXS hr with ⟨c_r_11, hr_11, rfl⟩ | ⟨r_11, hr_11, hr⟩
     ·
      refine r_die rfl rfl (s_callVX _ rfl rfl cl_Psnapshot_reader_frame .nil rfl (by exact (pf0 _)) (specX_inl (lg_Psnapshot_reader_frame_s1 fuel _ _ _ hr_11))) (hX _ ⟨_, rfl, rfl⟩)
     ·
      refine r_w rfl rfl rfl (s_callV _ rfl rfl cl_Psnapshot_reader_frame .nil rfl (by exact (pf0 _)) (specX_inr (lg_Psnapshot_reader_frame_s1 fuel _ _ _ hr_11))) ?_
      rintro _ _ ⟨_, ⟨rfl, rfl⟩, rfl⟩
      refine r_st ((.cell b_o0 (enc_S_snapshot_reader r_11.2)) :: _) rfl ?_
      refine r_d rfl rfl rfl (m_lit (f := enc_S_api_Frame) [.tmp 15] [r_11.1] rfl el_L_api_Frame rfl rfl (by decide) (by decide) (.cons rfl (Wk.refl _) .nil) sz_S_api_Frame (fun _ => rfl)) ?_
      obtain ⟨l_12, hl_12, hr⟩ := bindS hr
      refine r_w rfl rfl rfl (m_appOwn (f := enc_S_api_Frame) out_5 [r_11.1] rfl el_L_api_Frame rfl rfl (asl rfl) (pf1 _ _ _) rfl sz_S_api_Frame hl_12) ?_
      rintro _ _ ⟨u17_12, rfl, rfl⟩
      refine r_d rfl rfl rfl (s_assign rfl rfl) ?_
      refine r_end ?_
      refine g_inBlock ?_
      refine g_run (by kernel_rfl) [(0, .d), (1, .d)] rfl ?_
      refine r_d rfl rfl rfl (s_ar (r := t11_6 + 1) rfl rfl rfl rfl (by omega)) ?_
      refine r_d rfl rfl rfl (s_move rfl rfl) ?_
      refine r_end ?_
      refine g_sub [(2, .clo (.func 79) [.ref b_o0 0 []] []), (10, .int .i64 r_3.1), (7, .own u17_12 (l_12.map enc_S_api_Frame)), (11, .int .i64 (t11_6 + 1))] (Sub.cons' rfl (Sub.cons' rfl (Sub.cons' rfl (Sub.cons' rfl (Sub.nil _))))) ?_
      refine g_perm [_, _] _ ((pf0 _).trans (pf1 _ _ _)) ?_
      exact IH0 _ _ _ (by omega) ⟨l_12, (t11_6 + 1), r_11.2, u17_12, _, rfl, rfl, rfl, hi0', hr⟩

noncomputable def lf_Psnapshot_reader_item_s1 (fuel : Nat) (c_0 : S_snapshot_reader) : Option (Int ⊕ ((Int × At) × S_snapshot_reader)) :=
  (bindX (lf_Psnapshot_reader_number_s1 0 2147483648 c_0) fun r_2 =>
  (bindX (lf_Psnapshot_reader_atom_s1 fuel r_2.2) fun r_3 =>
  some (.inr ((r_2.1, r_3.1), r_3.2))))

set_option maxHeartbeats 1000000 in
theorem lg_Psnapshot_reader_item_s1 (fuel : Nat) (c_0 : S_snapshot_reader) (b_o0 : Nat) (res : Int ⊕ ((Int × At) × S_snapshot_reader)) (hr : lf_Psnapshot_reader_item_s1 fuel c_0 = some res) : SpecX Tryz.prog 81 [.ref b_o0 0 []] [.cell b_o0 (enc_S_snapshot_reader c_0)] (fun d σ => ∃ r : (Int × At) × S_snapshot_reader, res = .inr r ∧ d = encIt r.1 ∧ σ = [.cell b_o0 (enc_S_snapshot_reader r.2)]) (fun d => ∃ c, res = .inl c ∧ d = .ifc 191 (.agg [.int .i64 c])) := by
  unfold lf_Psnapshot_reader_item_s1 at hr
  refine spec_envX [(0, .ref b_o0 0 [])] Tryz.func81 rfl rfl fun K hK hX => ?_
  refine g_seq ?_
  refine g_run (by kernel_rfl) [(0, .w)] rfl ?_
  refine r_w rfl rfl rfl (s_alloc rfl zv_api_Item) ?_
  rintro _ _ ⟨b2_0, rfl, rfl⟩
  refine r_end ?_
  refine g_seq ?_
  refine g_run (by kernel_rfl) [(0, .d), (1, .w), (2, .d)] rfl ?_
  refine r_d rfl rfl rfl (s_move rfl rfl) ?_
  rcases bindXS hr with ⟨c_r_2, hr_2, rfl⟩ | ⟨r_2, hr_2, hr⟩
  ·
   refine r_die rfl rfl (s_callX _ rfl cl_Psnapshot_reader_number (.cons rfl (Wk.refl _) (.cons rfl (Wk.refl _) (.cons rfl (Wk.refl _) .nil))) (by exact (pf1 _ _ _)) (specX_inl (lg_Psnapshot_reader_number_s1 _ _ _ _ _ hr_2))) (hX _ ⟨_, rfl, rfl⟩)
  ·
   refine r_w rfl rfl rfl (s_call _ rfl cl_Psnapshot_reader_number (.cons rfl (Wk.refl _) (.cons rfl (Wk.refl _) (.cons rfl (Wk.refl _) .nil))) (by exact (pf1 _ _ _)) (specX_inr (lg_Psnapshot_reader_number_s1 _ _ _ _ _ hr_2))) ?_
   rintro _ _ ⟨_, ⟨rfl, rfl⟩, rfl⟩
   refine r_st ((.cell b_o0 (enc_S_snapshot_reader r_2.2)) :: _) rfl ?_
   refine r_d rfl rfl rfl (s_assign rfl rfl) ?_
   refine r_end ?_
   refine g_seq ?_
   refine g_run (by kernel_rfl) [(0, .d), (1, .d), (2, .w), (3, .d), (4, .w)] rfl ?_
   refine r_d rfl rfl rfl (s_move rfl rfl) ?_
   refine r_d rfl rfl rfl (s_move rfl rfl) ?_
   rcases bindXS hr with ⟨c_r_3, hr_3, rfl⟩ | ⟨r_3, hr_3, hr⟩
   ·
    refine r_die rfl rfl (s_callX _ rfl cl_Psnapshot_reader_atom (.cons rfl (Wk.refl _) .nil) (by exact (pf0 _)) (specX_inl (lg_Psnapshot_reader_atom_s1 fuel _ _ _ hr_3))) (hX _ ⟨_, rfl, rfl⟩)
   ·
    refine r_w rfl rfl rfl (s_call _ rfl cl_Psnapshot_reader_atom (.cons rfl (Wk.refl _) .nil) (by exact (pf0 _)) (specX_inr (lg_Psnapshot_reader_atom_s1 fuel _ _ _ hr_3))) ?_
    rintro _ _ ⟨_, ⟨rfl, rfl⟩, rfl⟩
    refine r_st ((.cell b_o0 (enc_S_snapshot_reader r_3.2)) :: _) rfl ?_
    refine r_d rfl rfl rfl (s_build rfl bt_api_Item (.cons rfl (Wk.refl _) (.cons rfl (Wk.refl _) .nil)) (.cons rfl rfl rfl (.cons rfl (sz_encA _) rfl (.nil _)))) ?_
    refine r_w01 rfl rfl rfl (t_store0 _ rfl rfl rfl (Wk.refl _) (pf1 _ _ _) (by exact ty_api_Item) (by first | rfl | simp [sz, szs, szs_fsT, sz_encA]) (by first | rfl | simp [sz, szs, szs_fsT, sz_encA]) rfl) ?_
    refine r_end ?_
    refine g_freeze 2 b2_0 rfl (pf0 _) ?_
    obtain rfl := Option.some.inj hr
    refine g_ret Tryz.func81 _ (.cons (resPtr rfl (by exact ty_api_Item) (by first | rfl | simp [sz, szs, szs_fsT, sz_encA]) (Wk.refl _)) .nil) ?_
    exact ⟨_, rfl, rfl, rfl⟩

noncomputable def lf_snapshot_take_s7_L0 (k : ((List (Int × At))) → (S_snapshot_reader) → Option (Int ⊕ ((List (Int × At)) × S_snapshot_reader))) (fuel : Nat) : Nat → (List (Int × At)) → S_snapshot_reader → Option (Int ⊕ ((List (Int × At)) × S_snapshot_reader))
  | 0, out_5, r_7 =>
  (k out_5 r_7)
  | rest + 1, out_5, r_7 =>
  (bindX (lf_Psnapshot_reader_item_s1 fuel r_7) fun r_11 =>
  ((appO 48 out_5 [r_11.1]).bind fun l_12 =>
  (lf_snapshot_take_s7_L0 k fuel rest l_12 r_11.2)))
noncomputable def lf_snapshot_take_s7 (fuel : Nat) (most_a1 : Int) (c_0 : S_snapshot_reader) : Option (Int ⊕ ((List (Int × At)) × S_snapshot_reader)) :=
  (bindX (lf_Psnapshot_reader_number_s1 0 most_a1 c_0) fun r_3 =>
  (lf_snapshot_take_s7_L0 (fun out_9 r_10 =>
  some (.inr (out_9, r_10))) fuel (r_3.1 - 0 : Int).toNat [] r_3.2))

set_option maxHeartbeats 1000000 in
theorem lg_snapshot_take_s7 (fuel : Nat) (most_a1 : Int) (c_0 : S_snapshot_reader) (b_o0 : Nat) (res : Int ⊕ ((List (Int × At)) × S_snapshot_reader)) (hr : lf_snapshot_take_s7 fuel most_a1 c_0 = some res) : SpecX Tryz.prog 80 [.ref b_o0 0 [], .int .i64 most_a1, .clo (.func 81) [.ref b_o0 0 []] []] [.cell b_o0 (enc_S_snapshot_reader c_0)] (fun d σ => ∃ r : (List (Int × At)) × S_snapshot_reader, res = .inr r ∧ d = .lst (r.1.map encIt) ∧ σ = [.cell b_o0 (enc_S_snapshot_reader r.2)]) (fun d => ∃ c, res = .inl c ∧ d = .ifc 191 (.agg [.int .i64 c])) := by
  unfold lf_snapshot_take_s7 at hr
  refine spec_envX [(0, .ref b_o0 0 []), (1, .int .i64 most_a1), (2, .clo (.func 81) [.ref b_o0 0 []] [])] Tryz.func80 rfl rfl fun K hK hX => ?_
  refine g_seq ?_
  refine g_run (by kernel_rfl) [(0, .w)] rfl ?_
  refine r_w rfl rfl rfl (s_nilOwn 109 3 (.inl rfl)) ?_
  rintro _ _ ⟨u6_0, rfl, rfl⟩
  refine r_end ?_
  refine g_seq ?_
  refine g_run (by kernel_rfl) [(0, .w)] rfl ?_
  refine r_w rfl rfl rfl (s_nilOwn 109 3 (.inl rfl)) ?_
  rintro _ _ ⟨u7_1, rfl, rfl⟩
  refine r_end ?_
  refine g_seq ?_
  refine g_seq ?_
  refine g_run (by kernel_rfl) [(0, .d), (1, .d), (2, .w), (3, .d)] rfl ?_
  refine r_d rfl rfl rfl (s_move rfl rfl) ?_
  refine r_d rfl rfl rfl (s_move rfl rfl) ?_
  rcases bindXS hr with ⟨c_r_3, hr_3, rfl⟩ | ⟨r_3, hr_3, hr⟩
  ·
   refine r_die rfl rfl (s_callX _ rfl cl_Psnapshot_reader_number (.cons rfl (Wk.refl _) (.cons rfl (Wk.refl _) (.cons rfl (Wk.refl _) .nil))) (by exact (pf2 _ _ _ _)) (specX_inl (lg_Psnapshot_reader_number_s1 _ _ _ _ _ hr_3))) (hX _ ⟨_, rfl, rfl⟩)
  ·
   refine r_w rfl rfl rfl (s_call _ rfl cl_Psnapshot_reader_number (.cons rfl (Wk.refl _) (.cons rfl (Wk.refl _) (.cons rfl (Wk.refl _) .nil))) (by exact (pf2 _ _ _ _)) (specX_inr (lg_Psnapshot_reader_number_s1 _ _ _ _ _ hr_3))) ?_
   rintro _ _ ⟨_, ⟨rfl, rfl⟩, rfl⟩
   refine r_st ((.cell b_o0 (enc_S_snapshot_reader r_3.2)) :: _) rfl ?_
   refine r_d rfl rfl rfl (s_move rfl rfl) ?_
   refine r_end ?_
   obtain ⟨kk0, hkk0, hr⟩ := exK (fun k => lf_snapshot_take_s7_L0 k fuel (r_3.1 - 0 : Int).toNat [] r_3.2) hr
   refine g_int 10 rfl fun hla0 => ?_
   refine g_blockJ (fun env σ => ∃ (out_9 : (List (Int × At))) (r_10 : S_snapshot_reader) (u_8 : Value), env = [(7, .own u_8 (out_9.map encIt))] ∧ σ = [.row u_8 out_9.length 109 3, .cell b_o0 (enc_S_snapshot_reader r_10)] ∧ kk0 out_9 r_10 = some res) ?_ (fun HK0 => ?_)
   ·
    rintro _ _ ⟨out_9, r_10, u_8, rfl, rfl, hr⟩
    rw [hkk0] at hr
    refine g_seq ?_
    refine g_run (by kernel_rfl) [(0, .d), (1, .d)] rfl ?_
    refine r_d rfl rfl rfl (s_move rfl rfl) ?_
    refine r_d rfl rfl rfl (s_assign rfl rfl) ?_
    refine r_end ?_
    refine g_perm [_] _ (pf1 _ _ _) ?_
    obtain rfl := Option.some.inj hr
    refine g_ret Tryz.func80 _ (.cons (resTmp rfl (Wk.own _ _)) .nil) ?_
    exact ⟨_, rfl, rfl, rfl⟩
   ·
    refine g_sub [(2, .clo (.func 81) [.ref b_o0 0 []] []), (10, .int .i64 r_3.1), (7, .own u7_1 ([].map encIt)), (11, .int .i64 0)] (Sub.cons' rfl (Sub.cons' rfl (Sub.cons' rfl (Sub.cons' rfl (Sub.nil _))))) ?_
    refine g_perm [_, _] _ ((pf1 _ _ _).trans (pf1 _ _ _)) ?_
    refine g_loop (fun n env σ => ∃ (out_5 : (List (Int × At))) (t11_6 : Int) (r_7 : S_snapshot_reader) (u_4 : Value) (m0 : Nat), (m0 = n) ∧ (env = [(2, .clo (.func 81) [.ref b_o0 0 []] []), (10, .int .i64 r_3.1), (7, .own u_4 (out_5.map encIt)), (11, .int .i64 t11_6)]) ∧ (σ = [.cell b_o0 (enc_S_snapshot_reader r_7), .row u_4 out_5.length 109 3]) ∧ (m0 = (r_3.1 - t11_6 : Int).toNat) ∧ (lf_snapshot_take_s7_L0 kk0 fuel m0 out_5 r_7 = some res)) _ ⟨[], 0, r_3.2, u7_1, _, rfl, rfl, rfl, rfl, hr⟩ ?_
    rintro n _ _ ⟨out_5, t11_6, r_7, u_4, m0, rfl, rfl, rfl, hi0, hr⟩ IH0
    refine g_int 11 rfl fun hb0 => ?_
    rcases cntStep t11_6 r_3.1 m0 hi0 with ⟨hm0, ht0⟩ | ⟨m0', hm0, ht0, hi0', hlt0⟩
    ·
     rw [hm0, lf_snapshot_take_s7_L0] at hr
     refine g_seq ?_
     refine g_run (by kernel_rfl) [(0, .d)] rfl ?_
     refine r_d rfl rfl rfl (s_cmp rfl rfl rfl rfl) ?_
     refine r_end ?_
     refine g_seq ?_
     refine g_known 12 false rfl ht0 ?_
     refine g_condF rfl ?_
     refine g_exit rfl ?_
     refine g_sub [(7, .own u_4 (out_5.map encIt))] (Sub.cons' rfl (Sub.nil _)) ?_
     refine g_perm [_, _] _ ((pf0 _).trans (pf1 _ _ _)) ?_
     exact HK0 _ _ ⟨out_5, r_7, u_4, rfl, rfl, hr⟩
    ·
     rw [hm0, lf_snapshot_take_s7_L0] at hr
     refine g_seq ?_
     refine g_run (by kernel_rfl) [(0, .d)] rfl ?_
     refine r_d rfl rfl rfl (s_cmp rfl rfl rfl rfl) ?_
     refine r_end ?_
     refine g_seq ?_
     refine g_int 10 rfl fun hbN10 => ?_
     refine g_known 12 true rfl ht0 ?_
     refine g_condT rfl ?_
     refine g_skip ?_
     refine g_seq ?_
     refine g_block ?_
     refine g_run (by kernel_rfl) [(0, .d), (1, .d), (2, .w), (3, .d), (4, .w), (5, .d)] rfl ?_
     refine r_d rfl rfl rfl (s_move rfl rfl) ?_
     refine r_d rfl rfl rfl (s_move rfl rfl) ?_
     rcases bindXS hr with ⟨c_r_11, hr_11, rfl⟩ | ⟨r_11, hr_11, hr⟩
     ·
      refine r_die rfl rfl (s_callVX _ rfl rfl cl_Psnapshot_reader_item .nil rfl (by exact (pf0 _)) (specX_inl (lg_Psnapshot_reader_item_s1 fuel _ _ _ hr_11))) (hX _ ⟨_, rfl, rfl⟩)
     ·
      refine r_w rfl rfl rfl (s_callV _ rfl rfl cl_Psnapshot_reader_item .nil rfl (by exact (pf0 _)) (specX_inr (lg_Psnapshot_reader_item_s1 fuel _ _ _ hr_11))) ?_
      rintro _ _ ⟨_, ⟨rfl, rfl⟩, rfl⟩
      refine r_st ((.cell b_o0 (enc_S_snapshot_reader r_11.2)) :: _) rfl ?_
      refine r_d rfl rfl rfl (m_lit (f := encIt) [.tmp 15] [r_11.1] rfl el_L_api_Item rfl rfl (by decide) (by decide) (.cons rfl (Wk.refl _) .nil) sz_encIt (fun _ => rfl)) ?_
      obtain ⟨l_12, hl_12, hr⟩ := bindS hr
      refine r_w rfl rfl rfl (m_appOwn (f := encIt) out_5 [r_11.1] rfl el_L_api_Item rfl rfl (asl rfl) (pf1 _ _ _) rfl sz_encIt hl_12) ?_
      rintro _ _ ⟨u17_12, rfl, rfl⟩
      refine r_d rfl rfl rfl (s_assign rfl rfl) ?_
      refine r_end ?_
      refine g_inBlock ?_
      refine g_run (by kernel_rfl) [(0, .d), (1, .d)] rfl ?_
      refine r_d rfl rfl rfl (s_ar (r := t11_6 + 1) rfl rfl rfl rfl (by omega)) ?_
      refine r_d rfl rfl rfl (s_move rfl rfl) ?_
      refine r_end ?_
      refine g_sub [(2, .clo (.func 81) [.ref b_o0 0 []] []), (10, .int .i64 r_3.1), (7, .own u17_12 (l_12.map encIt)), (11, .int .i64 (t11_6 + 1))] (Sub.cons' rfl (Sub.cons' rfl (Sub.cons' rfl (Sub.cons' rfl (Sub.nil _))))) ?_
      refine g_perm [_, _] _ ((pf0 _).trans (pf1 _ _ _)) ?_
      exact IH0 _ _ _ (by omega) ⟨l_12, (t11_6 + 1), r_11.2, u17_12, _, rfl, rfl, rfl, hi0', hr⟩

noncomputable def lf_snapshot_TakeConfig_1_1_s1 (fuel : Nat) (c_0 : S_snapshot_reader) : Option (Int ⊕ ((Int × T) × S_snapshot_reader)) :=
  (bindX (lf_Psnapshot_reader_number_s1 0 1048576 c_0) fun r_2 =>
  (bindX (lf_Psnapshot_reader_term_s1 fuel 0 r_2.2) fun r_3 =>
  some (.inr ((r_2.1, r_3.1), r_3.2))))

set_option maxHeartbeats 1000000 in
theorem lg_snapshot_TakeConfig_1_1_s1 (fuel : Nat) (c_0 : S_snapshot_reader) (b_o0 : Nat) (res : Int ⊕ ((Int × T) × S_snapshot_reader)) (hr : lf_snapshot_TakeConfig_1_1_s1 fuel c_0 = some res) : SpecX Tryz.prog 83 [.ptr (.ref b_o0 0 [])] [.cell b_o0 (enc_S_snapshot_reader c_0)] (fun d σ => ∃ r : (Int × T) × S_snapshot_reader, res = .inr r ∧ d = encP r.1 ∧ σ = [.cell b_o0 (enc_S_snapshot_reader r.2)]) (fun d => ∃ c, res = .inl c ∧ d = .ifc 191 (.agg [.int .i64 c])) := by
  unfold lf_snapshot_TakeConfig_1_1_s1 at hr
  refine spec_envX [(0, .ptr (.ref b_o0 0 []))] Tryz.func83 rfl rfl fun K hK hX => ?_
  refine g_seq ?_
  refine g_run (by kernel_rfl) [(0, .w)] rfl ?_
  refine r_w rfl rfl rfl (s_alloc rfl zv_api_Bind) ?_
  rintro _ _ ⟨b1_0, rfl, rfl⟩
  refine r_end ?_
  refine g_seq ?_
  refine g_run (by kernel_rfl) [(0, .d), (1, .w), (2, .d)] rfl ?_
  refine r_d rfl rfl rfl (s_load rfl rfl (by exact ty_P_snapshot_reader) rfl) ?_
  rcases bindXS hr with ⟨c_r_2, hr_2, rfl⟩ | ⟨r_2, hr_2, hr⟩
  ·
   refine r_die rfl rfl (s_callX _ rfl cl_Psnapshot_reader_number (.cons rfl (Wk.refl _) (.cons rfl (Wk.refl _) (.cons rfl (Wk.refl _) .nil))) (by exact (pf1 _ _ _)) (specX_inl (lg_Psnapshot_reader_number_s1 _ _ _ _ _ hr_2))) (hX _ ⟨_, rfl, rfl⟩)
  ·
   refine r_w rfl rfl rfl (s_call _ rfl cl_Psnapshot_reader_number (.cons rfl (Wk.refl _) (.cons rfl (Wk.refl _) (.cons rfl (Wk.refl _) .nil))) (by exact (pf1 _ _ _)) (specX_inr (lg_Psnapshot_reader_number_s1 _ _ _ _ _ hr_2))) ?_
   rintro _ _ ⟨_, ⟨rfl, rfl⟩, rfl⟩
   refine r_st ((.cell b_o0 (enc_S_snapshot_reader r_2.2)) :: _) rfl ?_
   refine r_d rfl rfl rfl (s_assign rfl rfl) ?_
   refine r_end ?_
   refine g_seq ?_
   refine g_run (by kernel_rfl) [(0, .d), (1, .d), (2, .w), (3, .d), (4, .w)] rfl ?_
   refine r_d rfl rfl rfl (s_move rfl rfl) ?_
   refine r_d rfl rfl rfl (s_load rfl rfl (by exact ty_P_snapshot_reader) rfl) ?_
   rcases bindXS hr with ⟨c_r_3, hr_3, rfl⟩ | ⟨r_3, hr_3, hr⟩
   ·
    refine r_die rfl rfl (s_callX _ rfl cl_Psnapshot_reader_term (.cons rfl (Wk.refl _) (.cons rfl (Wk.refl _) .nil)) (by exact (pf0 _)) (specX_inl (lg_Psnapshot_reader_term_s1 fuel _ _ _ _ hr_3))) (hX _ ⟨_, rfl, rfl⟩)
   ·
    refine r_w rfl rfl rfl (s_call _ rfl cl_Psnapshot_reader_term (.cons rfl (Wk.refl _) (.cons rfl (Wk.refl _) .nil)) (by exact (pf0 _)) (specX_inr (lg_Psnapshot_reader_term_s1 fuel _ _ _ _ hr_3))) ?_
    rintro _ _ ⟨_, ⟨rfl, rfl⟩, rfl⟩
    refine r_st ((.cell b_o0 (enc_S_snapshot_reader r_3.2)) :: _) rfl ?_
    refine r_d rfl rfl rfl (s_build rfl bt_api_Bind (.cons rfl (Wk.refl _) (.cons rfl (Wk.refl _) .nil)) (.cons rfl rfl rfl (.cons rfl (sz_encT _) rfl (.nil _)))) ?_
    refine r_w01 rfl rfl rfl (t_store0 _ rfl rfl rfl (Wk.refl _) (pf1 _ _ _) (by exact ty_api_Bind) (by first | rfl | simp [sz, szs, szs_fsT, sz_encT]) (by first | rfl | simp [sz, szs, szs_fsT, sz_encT]) rfl) ?_
    refine r_end ?_
    refine g_freeze 1 b1_0 rfl (pf0 _) ?_
    obtain rfl := Option.some.inj hr
    refine g_ret Tryz.func83 _ (.cons (resPtr rfl (by exact ty_api_Bind) (by first | rfl | simp [sz, szs, szs_fsT, sz_encT]) (Wk.refl _)) .nil) ?_
    exact ⟨_, rfl, rfl, rfl⟩

noncomputable def lf_snapshot_take_s8_L0 (k : ((List (Int × T))) → (S_snapshot_reader) → Option (Int ⊕ ((List (Int × T)) × S_snapshot_reader))) (fuel : Nat) : Nat → (List (Int × T)) → S_snapshot_reader → Option (Int ⊕ ((List (Int × T)) × S_snapshot_reader))
  | 0, out_5, r_7 =>
  (k out_5 r_7)
  | rest + 1, out_5, r_7 =>
  (bindX (lf_snapshot_TakeConfig_1_1_s1 fuel r_7) fun r_11 =>
  ((appO 64 out_5 [r_11.1]).bind fun l_12 =>
  (lf_snapshot_take_s8_L0 k fuel rest l_12 r_11.2)))
noncomputable def lf_snapshot_take_s8 (fuel : Nat) (most_a1 : Int) (c_0 : S_snapshot_reader) : Option (Int ⊕ ((List (Int × T)) × S_snapshot_reader)) :=
  (bindX (lf_Psnapshot_reader_number_s1 0 most_a1 c_0) fun r_3 =>
  (lf_snapshot_take_s8_L0 (fun out_9 r_10 =>
  some (.inr (out_9, r_10))) fuel (r_3.1 - 0 : Int).toNat [] r_3.2))

set_option maxHeartbeats 1000000 in
theorem lg_snapshot_take_s8 (fuel : Nat) (most_a1 : Int) (c_0 : S_snapshot_reader) (b_o0 : Nat) (res : Int ⊕ ((List (Int × T)) × S_snapshot_reader)) (hr : lf_snapshot_take_s8 fuel most_a1 c_0 = some res) : SpecX Tryz.prog 82 [.ref b_o0 0 [], .int .i64 most_a1, .clo (.func 83) [] [.ptr (.ref b_o0 0 [])]] [.cell b_o0 (enc_S_snapshot_reader c_0)] (fun d σ => ∃ r : (List (Int × T)) × S_snapshot_reader, res = .inr r ∧ d = .lst (r.1.map encP) ∧ σ = [.cell b_o0 (enc_S_snapshot_reader r.2)]) (fun d => ∃ c, res = .inl c ∧ d = .ifc 191 (.agg [.int .i64 c])) := by
  unfold lf_snapshot_take_s8 at hr
  refine spec_envX [(0, .ref b_o0 0 []), (1, .int .i64 most_a1), (2, .clo (.func 83) [] [.ptr (.ref b_o0 0 [])])] Tryz.func82 rfl rfl fun K hK hX => ?_
  refine g_seq ?_
  refine g_run (by kernel_rfl) [(0, .w)] rfl ?_
  refine r_w rfl rfl rfl (s_nilOwn 116 5 (.inl rfl)) ?_
  rintro _ _ ⟨u6_0, rfl, rfl⟩
  refine r_end ?_
  refine g_seq ?_
  refine g_run (by kernel_rfl) [(0, .w)] rfl ?_
  refine r_w rfl rfl rfl (s_nilOwn 116 5 (.inl rfl)) ?_
  rintro _ _ ⟨u7_1, rfl, rfl⟩
  refine r_end ?_
  refine g_seq ?_
  refine g_seq ?_
  refine g_run (by kernel_rfl) [(0, .d), (1, .d), (2, .w), (3, .d)] rfl ?_
  refine r_d rfl rfl rfl (s_move rfl rfl) ?_
  refine r_d rfl rfl rfl (s_move rfl rfl) ?_
  rcases bindXS hr with ⟨c_r_3, hr_3, rfl⟩ | ⟨r_3, hr_3, hr⟩
  ·
   refine r_die rfl rfl (s_callX _ rfl cl_Psnapshot_reader_number (.cons rfl (Wk.refl _) (.cons rfl (Wk.refl _) (.cons rfl (Wk.refl _) .nil))) (by exact (pf2 _ _ _ _)) (specX_inl (lg_Psnapshot_reader_number_s1 _ _ _ _ _ hr_3))) (hX _ ⟨_, rfl, rfl⟩)
  ·
   refine r_w rfl rfl rfl (s_call _ rfl cl_Psnapshot_reader_number (.cons rfl (Wk.refl _) (.cons rfl (Wk.refl _) (.cons rfl (Wk.refl _) .nil))) (by exact (pf2 _ _ _ _)) (specX_inr (lg_Psnapshot_reader_number_s1 _ _ _ _ _ hr_3))) ?_
   rintro _ _ ⟨_, ⟨rfl, rfl⟩, rfl⟩
   refine r_st ((.cell b_o0 (enc_S_snapshot_reader r_3.2)) :: _) rfl ?_
   refine r_d rfl rfl rfl (s_move rfl rfl) ?_
   refine r_end ?_
   obtain ⟨kk0, hkk0, hr⟩ := exK (fun k => lf_snapshot_take_s8_L0 k fuel (r_3.1 - 0 : Int).toNat [] r_3.2) hr
   refine g_int 10 rfl fun hla0 => ?_
   refine g_blockJ (fun env σ => ∃ (out_9 : (List (Int × T))) (r_10 : S_snapshot_reader) (u_8 : Value), env = [(7, .own u_8 (out_9.map encP))] ∧ σ = [.row u_8 out_9.length 116 5, .cell b_o0 (enc_S_snapshot_reader r_10)] ∧ kk0 out_9 r_10 = some res) ?_ (fun HK0 => ?_)
   ·
    rintro _ _ ⟨out_9, r_10, u_8, rfl, rfl, hr⟩
    rw [hkk0] at hr
    refine g_seq ?_
    refine g_run (by kernel_rfl) [(0, .d), (1, .d)] rfl ?_
    refine r_d rfl rfl rfl (s_move rfl rfl) ?_
    refine r_d rfl rfl rfl (s_assign rfl rfl) ?_
    refine r_end ?_
    refine g_perm [_] _ (pf1 _ _ _) ?_
    obtain rfl := Option.some.inj hr
    refine g_ret Tryz.func82 _ (.cons (resTmp rfl (Wk.own _ _)) .nil) ?_
    exact ⟨_, rfl, rfl, rfl⟩
   ·
    refine g_sub [(2, .clo (.func 83) [] [.ptr (.ref b_o0 0 [])]), (10, .int .i64 r_3.1), (7, .own u7_1 ([].map encP)), (11, .int .i64 0)] (Sub.cons' rfl (Sub.cons' rfl (Sub.cons' rfl (Sub.cons' rfl (Sub.nil _))))) ?_
    refine g_perm [_, _] _ ((pf1 _ _ _).trans (pf1 _ _ _)) ?_
    refine g_loop (fun n env σ => ∃ (out_5 : (List (Int × T))) (t11_6 : Int) (r_7 : S_snapshot_reader) (u_4 : Value) (m0 : Nat), (m0 = n) ∧ (env = [(2, .clo (.func 83) [] [.ptr (.ref b_o0 0 [])]), (10, .int .i64 r_3.1), (7, .own u_4 (out_5.map encP)), (11, .int .i64 t11_6)]) ∧ (σ = [.cell b_o0 (enc_S_snapshot_reader r_7), .row u_4 out_5.length 116 5]) ∧ (m0 = (r_3.1 - t11_6 : Int).toNat) ∧ (lf_snapshot_take_s8_L0 kk0 fuel m0 out_5 r_7 = some res)) _ ⟨[], 0, r_3.2, u7_1, _, rfl, rfl, rfl, rfl, hr⟩ ?_
    rintro n _ _ ⟨out_5, t11_6, r_7, u_4, m0, rfl, rfl, rfl, hi0, hr⟩ IH0
    refine g_int 11 rfl fun hb0 => ?_
    rcases cntStep t11_6 r_3.1 m0 hi0 with ⟨hm0, ht0⟩ | ⟨m0', hm0, ht0, hi0', hlt0⟩
    ·
     rw [hm0, lf_snapshot_take_s8_L0] at hr
     refine g_seq ?_
     refine g_run (by kernel_rfl) [(0, .d)] rfl ?_
     refine r_d rfl rfl rfl (s_cmp rfl rfl rfl rfl) ?_
     refine r_end ?_
     refine g_seq ?_
     refine g_known 12 false rfl ht0 ?_
     refine g_condF rfl ?_
     refine g_exit rfl ?_
     refine g_sub [(7, .own u_4 (out_5.map encP))] (Sub.cons' rfl (Sub.nil _)) ?_
     refine g_perm [_, _] _ ((pf0 _).trans (pf1 _ _ _)) ?_
     exact HK0 _ _ ⟨out_5, r_7, u_4, rfl, rfl, hr⟩
    ·
     rw [hm0, lf_snapshot_take_s8_L0] at hr
     refine g_seq ?_
     refine g_run (by kernel_rfl) [(0, .d)] rfl ?_
     refine r_d rfl rfl rfl (s_cmp rfl rfl rfl rfl) ?_
     refine r_end ?_
     refine g_seq ?_
     refine g_int 10 rfl fun hbN10 => ?_
     refine g_known 12 true rfl ht0 ?_
     refine g_condT rfl ?_
     refine g_skip ?_
     refine g_seq ?_
     refine g_block ?_
     refine g_run (by kernel_rfl) [(0, .d), (1, .d), (2, .w), (3, .d), (4, .w), (5, .d)] rfl ?_
     refine r_d rfl rfl rfl (s_move rfl rfl) ?_
     refine r_d rfl rfl rfl (s_move rfl rfl) ?_
     rcases bindXS hr with ⟨c_r_11, hr_11, rfl⟩ | ⟨r_11, hr_11, hr⟩
     ·
      refine r_die rfl rfl (s_callVX _ rfl rfl cl_snapshot_TakeConfig_1_1 .nil rfl (by exact (pf0 _)) (specX_inl (lg_snapshot_TakeConfig_1_1_s1 fuel _ _ _ hr_11))) (hX _ ⟨_, rfl, rfl⟩)
     ·
      refine r_w rfl rfl rfl (s_callV _ rfl rfl cl_snapshot_TakeConfig_1_1 .nil rfl (by exact (pf0 _)) (specX_inr (lg_snapshot_TakeConfig_1_1_s1 fuel _ _ _ hr_11))) ?_
      rintro _ _ ⟨_, ⟨rfl, rfl⟩, rfl⟩
      refine r_st ((.cell b_o0 (enc_S_snapshot_reader r_11.2)) :: _) rfl ?_
      refine r_d rfl rfl rfl (m_lit (f := encP) [.tmp 15] [r_11.1] rfl el_L_api_Bind rfl rfl (by decide) (by decide) (.cons rfl (Wk.refl _) .nil) sz_encP (fun _ => rfl)) ?_
      obtain ⟨l_12, hl_12, hr⟩ := bindS hr
      refine r_w rfl rfl rfl (m_appOwn (f := encP) out_5 [r_11.1] rfl el_L_api_Bind rfl rfl (asl rfl) (pf1 _ _ _) rfl sz_encP hl_12) ?_
      rintro _ _ ⟨u17_12, rfl, rfl⟩
      refine r_d rfl rfl rfl (s_assign rfl rfl) ?_
      refine r_end ?_
      refine g_inBlock ?_
      refine g_run (by kernel_rfl) [(0, .d), (1, .d)] rfl ?_
      refine r_d rfl rfl rfl (s_ar (r := t11_6 + 1) rfl rfl rfl rfl (by omega)) ?_
      refine r_d rfl rfl rfl (s_move rfl rfl) ?_
      refine r_end ?_
      refine g_sub [(2, .clo (.func 83) [] [.ptr (.ref b_o0 0 [])]), (10, .int .i64 r_3.1), (7, .own u17_12 (l_12.map encP)), (11, .int .i64 (t11_6 + 1))] (Sub.cons' rfl (Sub.cons' rfl (Sub.cons' rfl (Sub.cons' rfl (Sub.nil _))))) ?_
      refine g_perm [_, _] _ ((pf0 _).trans (pf1 _ _ _)) ?_
      exact IH0 _ _ _ (by omega) ⟨l_12, (t11_6 + 1), r_11.2, u17_12, _, rfl, rfl, rfl, hi0', hr⟩

noncomputable def lf_Psnapshot_reader_numbers_1_s1 (t1_a1 : Int) (c_0 : S_snapshot_reader) : Option (Int ⊕ (Int × S_snapshot_reader)) :=
  (bindX (lf_Psnapshot_reader_number_s1 0 t1_a1 c_0) fun r_1 =>
  some (.inr (r_1.1, r_1.2)))

set_option maxHeartbeats 1000000 in
theorem lg_Psnapshot_reader_numbers_1_s1 (t1_a1 : Int) (c_0 : S_snapshot_reader) (b_o0 : Nat) (res : Int ⊕ (Int × S_snapshot_reader)) (hr : lf_Psnapshot_reader_numbers_1_s1 t1_a1 c_0 = some res) : SpecX Tryz.prog 163 [.ptr (.ref b_o0 0 []), .ptr (.int .i64 t1_a1)] [.cell b_o0 (enc_S_snapshot_reader c_0)] (fun d σ => ∃ r : Int × S_snapshot_reader, res = .inr r ∧ d = .int .i64 r.1 ∧ σ = [.cell b_o0 (enc_S_snapshot_reader r.2)]) (fun d => ∃ c, res = .inl c ∧ d = .ifc 191 (.agg [.int .i64 c])) := by
  unfold lf_Psnapshot_reader_numbers_1_s1 at hr
  refine spec_envX [(0, .ptr (.ref b_o0 0 [])), (1, .ptr (.int .i64 t1_a1))] Tryz.func163 rfl rfl fun K hK hX => ?_
  refine g_seq ?_
  refine g_run (by kernel_rfl) [(0, .d)] rfl ?_
  refine r_d rfl rfl rfl (s_assign rfl rfl) ?_
  refine r_end ?_
  refine g_seq ?_
  refine g_run (by kernel_rfl) [(0, .d), (1, .d), (2, .w), (3, .d)] rfl ?_
  refine r_d rfl rfl rfl (s_load rfl rfl (by exact ty_P_snapshot_reader) rfl) ?_
  refine r_d rfl rfl rfl (s_load rfl rfl (by exact ty_int) rfl) ?_
  rcases bindXS hr with ⟨c_r_1, hr_1, rfl⟩ | ⟨r_1, hr_1, hr⟩
  ·
   refine r_die rfl rfl (s_callX _ rfl cl_Psnapshot_reader_number (.cons rfl (Wk.refl _) (.cons rfl (Wk.refl _) (.cons rfl (Wk.refl _) .nil))) (by exact (pf0 _)) (specX_inl (lg_Psnapshot_reader_number_s1 _ _ _ _ _ hr_1))) (hX _ ⟨_, rfl, rfl⟩)
  ·
   refine r_w rfl rfl rfl (s_call _ rfl cl_Psnapshot_reader_number (.cons rfl (Wk.refl _) (.cons rfl (Wk.refl _) (.cons rfl (Wk.refl _) .nil))) (by exact (pf0 _)) (specX_inr (lg_Psnapshot_reader_number_s1 _ _ _ _ _ hr_1))) ?_
   rintro _ _ ⟨_, ⟨rfl, rfl⟩, rfl⟩
   refine r_st ((.cell b_o0 (enc_S_snapshot_reader r_1.2)) :: _) rfl ?_
   refine r_d rfl rfl rfl (s_assign rfl rfl) ?_
   refine r_end ?_
   obtain rfl := Option.some.inj hr
   refine g_ret Tryz.func163 _ (.cons (resTmp rfl (Wk.refl _)) .nil) ?_
   exact ⟨_, rfl, rfl, rfl⟩

noncomputable def lf_snapshot_take_s10_L0 (k : ((List Int)) → (S_snapshot_reader) → Option (Int ⊕ ((List Int) × S_snapshot_reader))) (one_a2_c1 : Int) : Nat → (List Int) → S_snapshot_reader → Option (Int ⊕ ((List Int) × S_snapshot_reader))
  | 0, out_5, r_7 =>
  (k out_5 r_7)
  | rest + 1, out_5, r_7 =>
  (bindX (lf_Psnapshot_reader_numbers_1_s1 one_a2_c1 r_7) fun r_11 =>
  ((appO 8 out_5 [r_11.1]).bind fun l_12 =>
  (lf_snapshot_take_s10_L0 k one_a2_c1 rest l_12 r_11.2)))
noncomputable def lf_snapshot_take_s10 (most_a1 : Int) (one_a2_c1 : Int) (c_0 : S_snapshot_reader) : Option (Int ⊕ ((List Int) × S_snapshot_reader)) :=
  (bindX (lf_Psnapshot_reader_number_s1 0 most_a1 c_0) fun r_3 =>
  (lf_snapshot_take_s10_L0 (fun out_9 r_10 =>
  some (.inr (out_9, r_10))) one_a2_c1 (r_3.1 - 0 : Int).toNat [] r_3.2))

set_option maxHeartbeats 1000000 in
theorem lg_snapshot_take_s10 (most_a1 : Int) (one_a2_c1 : Int) (c_0 : S_snapshot_reader) (b_o0 : Nat) (res : Int ⊕ ((List Int) × S_snapshot_reader)) (hr : lf_snapshot_take_s10 most_a1 one_a2_c1 c_0 = some res) : SpecX Tryz.prog 162 [.ref b_o0 0 [], .int .i64 most_a1, .clo (.func 163) [] [.ptr (.ref b_o0 0 []), .ptr (.int .i64 one_a2_c1)]] [.cell b_o0 (enc_S_snapshot_reader c_0)] (fun d σ => ∃ r : (List Int) × S_snapshot_reader, res = .inr r ∧ d = .lst (r.1.map (D.int .i64)) ∧ σ = [.cell b_o0 (enc_S_snapshot_reader r.2)]) (fun d => ∃ c, res = .inl c ∧ d = .ifc 191 (.agg [.int .i64 c])) := by
  unfold lf_snapshot_take_s10 at hr
  refine spec_envX [(0, .ref b_o0 0 []), (1, .int .i64 most_a1), (2, .clo (.func 163) [] [.ptr (.ref b_o0 0 []), .ptr (.int .i64 one_a2_c1)])] Tryz.func162 rfl rfl fun K hK hX => ?_
  refine g_seq ?_
  refine g_run (by kernel_rfl) [(0, .w)] rfl ?_
  refine r_w rfl rfl rfl (s_nilOwn 3 1 (.inl rfl)) ?_
  rintro _ _ ⟨u6_0, rfl, rfl⟩
  refine r_end ?_
  refine g_seq ?_
  refine g_run (by kernel_rfl) [(0, .w)] rfl ?_
  refine r_w rfl rfl rfl (s_nilOwn 3 1 (.inl rfl)) ?_
  rintro _ _ ⟨u7_1, rfl, rfl⟩
  refine r_end ?_
  refine g_seq ?_
  refine g_seq ?_
  refine g_run (by kernel_rfl) [(0, .d), (1, .d), (2, .w), (3, .d)] rfl ?_
  refine r_d rfl rfl rfl (s_move rfl rfl) ?_
  refine r_d rfl rfl rfl (s_move rfl rfl) ?_
  rcases bindXS hr with ⟨c_r_3, hr_3, rfl⟩ | ⟨r_3, hr_3, hr⟩
  ·
   refine r_die rfl rfl (s_callX _ rfl cl_Psnapshot_reader_number (.cons rfl (Wk.refl _) (.cons rfl (Wk.refl _) (.cons rfl (Wk.refl _) .nil))) (by exact (pf2 _ _ _ _)) (specX_inl (lg_Psnapshot_reader_number_s1 _ _ _ _ _ hr_3))) (hX _ ⟨_, rfl, rfl⟩)
  ·
   refine r_w rfl rfl rfl (s_call _ rfl cl_Psnapshot_reader_number (.cons rfl (Wk.refl _) (.cons rfl (Wk.refl _) (.cons rfl (Wk.refl _) .nil))) (by exact (pf2 _ _ _ _)) (specX_inr (lg_Psnapshot_reader_number_s1 _ _ _ _ _ hr_3))) ?_
   rintro _ _ ⟨_, ⟨rfl, rfl⟩, rfl⟩
   refine r_st ((.cell b_o0 (enc_S_snapshot_reader r_3.2)) :: _) rfl ?_
   refine r_d rfl rfl rfl (s_move rfl rfl) ?_
   refine r_end ?_
   obtain ⟨kk0, hkk0, hr⟩ := exK (fun k => lf_snapshot_take_s10_L0 k one_a2_c1 (r_3.1 - 0 : Int).toNat [] r_3.2) hr
   refine g_int 10 rfl fun hla0 => ?_
   refine g_blockJ (fun env σ => ∃ (out_9 : (List Int)) (r_10 : S_snapshot_reader) (u_8 : Value), env = [(7, .own u_8 (out_9.map (D.int .i64)))] ∧ σ = [.row u_8 out_9.length 3 1, .cell b_o0 (enc_S_snapshot_reader r_10)] ∧ kk0 out_9 r_10 = some res) ?_ (fun HK0 => ?_)
   ·
    rintro _ _ ⟨out_9, r_10, u_8, rfl, rfl, hr⟩
    rw [hkk0] at hr
    refine g_seq ?_
    refine g_run (by kernel_rfl) [(0, .d), (1, .d)] rfl ?_
    refine r_d rfl rfl rfl (s_move rfl rfl) ?_
    refine r_d rfl rfl rfl (s_assign rfl rfl) ?_
    refine r_end ?_
    refine g_perm [_] _ (pf1 _ _ _) ?_
    obtain rfl := Option.some.inj hr
    refine g_ret Tryz.func162 _ (.cons (resTmp rfl (Wk.own _ _)) .nil) ?_
    exact ⟨_, rfl, rfl, rfl⟩
   ·
    refine g_sub [(2, .clo (.func 163) [] [.ptr (.ref b_o0 0 []), .ptr (.int .i64 one_a2_c1)]), (10, .int .i64 r_3.1), (7, .own u7_1 ([].map (D.int .i64))), (11, .int .i64 0)] (Sub.cons' rfl (Sub.cons' rfl (Sub.cons' rfl (Sub.cons' rfl (Sub.nil _))))) ?_
    refine g_perm [_, _] _ ((pf1 _ _ _).trans (pf1 _ _ _)) ?_
    refine g_loop (fun n env σ => ∃ (out_5 : (List Int)) (t11_6 : Int) (r_7 : S_snapshot_reader) (u_4 : Value) (m0 : Nat), (m0 = n) ∧ (env = [(2, .clo (.func 163) [] [.ptr (.ref b_o0 0 []), .ptr (.int .i64 one_a2_c1)]), (10, .int .i64 r_3.1), (7, .own u_4 (out_5.map (D.int .i64))), (11, .int .i64 t11_6)]) ∧ (σ = [.cell b_o0 (enc_S_snapshot_reader r_7), .row u_4 out_5.length 3 1]) ∧ (m0 = (r_3.1 - t11_6 : Int).toNat) ∧ (lf_snapshot_take_s10_L0 kk0 one_a2_c1 m0 out_5 r_7 = some res)) _ ⟨[], 0, r_3.2, u7_1, _, rfl, rfl, rfl, rfl, hr⟩ ?_
    rintro n _ _ ⟨out_5, t11_6, r_7, u_4, m0, rfl, rfl, rfl, hi0, hr⟩ IH0
    refine g_int 11 rfl fun hb0 => ?_
    rcases cntStep t11_6 r_3.1 m0 hi0 with ⟨hm0, ht0⟩ | ⟨m0', hm0, ht0, hi0', hlt0⟩
    ·
     rw [hm0, lf_snapshot_take_s10_L0] at hr
     refine g_seq ?_
     refine g_run (by kernel_rfl) [(0, .d)] rfl ?_
     refine r_d rfl rfl rfl (s_cmp rfl rfl rfl rfl) ?_
     refine r_end ?_
     refine g_seq ?_
     refine g_known 12 false rfl ht0 ?_
     refine g_condF rfl ?_
     refine g_exit rfl ?_
     refine g_sub [(7, .own u_4 (out_5.map (D.int .i64)))] (Sub.cons' rfl (Sub.nil _)) ?_
     refine g_perm [_, _] _ ((pf0 _).trans (pf1 _ _ _)) ?_
     exact HK0 _ _ ⟨out_5, r_7, u_4, rfl, rfl, hr⟩
    ·
     rw [hm0, lf_snapshot_take_s10_L0] at hr
     refine g_seq ?_
     refine g_run (by kernel_rfl) [(0, .d)] rfl ?_
     refine r_d rfl rfl rfl (s_cmp rfl rfl rfl rfl) ?_
     refine r_end ?_
     refine g_seq ?_
     refine g_int 10 rfl fun hbN10 => ?_
     refine g_known 12 true rfl ht0 ?_
     refine g_condT rfl ?_
     refine g_skip ?_
     refine g_seq ?_
     refine g_block ?_
     refine g_run (by kernel_rfl) [(0, .d), (1, .d), (2, .w), (3, .d), (4, .w), (5, .d)] rfl ?_
     refine r_d rfl rfl rfl (s_move rfl rfl) ?_
     refine r_d rfl rfl rfl (s_move rfl rfl) ?_
     rcases bindXS hr with ⟨c_r_11, hr_11, rfl⟩ | ⟨r_11, hr_11, hr⟩
     ·
      refine r_die rfl rfl (s_callVX _ rfl rfl cl_Psnapshot_reader_numbers_1 .nil rfl (by exact (pf0 _)) (specX_inl (lg_Psnapshot_reader_numbers_1_s1 _ _ _ _ hr_11))) (hX _ ⟨_, rfl, rfl⟩)
     ·
      refine r_w rfl rfl rfl (s_callV _ rfl rfl cl_Psnapshot_reader_numbers_1 .nil rfl (by exact (pf0 _)) (specX_inr (lg_Psnapshot_reader_numbers_1_s1 _ _ _ _ hr_11))) ?_
      rintro _ _ ⟨_, ⟨rfl, rfl⟩, rfl⟩
      refine r_st ((.cell b_o0 (enc_S_snapshot_reader r_11.2)) :: _) rfl ?_
      refine r_d rfl rfl rfl (m_lit (f := (D.int .i64)) [.tmp 15] [r_11.1] rfl el_L_int rfl rfl (by decide) (by decide) (.cons rfl (Wk.refl _) .nil) (fun _ => rfl) (fun _ => rfl)) ?_
      obtain ⟨l_12, hl_12, hr⟩ := bindS hr
      refine r_w rfl rfl rfl (m_appOwn (f := (D.int .i64)) out_5 [r_11.1] rfl el_L_int rfl rfl (asl rfl) (pf1 _ _ _) rfl (fun _ => rfl) hl_12) ?_
      rintro _ _ ⟨u17_12, rfl, rfl⟩
      refine r_d rfl rfl rfl (s_assign rfl rfl) ?_
      refine r_end ?_
      refine g_inBlock ?_
      refine g_run (by kernel_rfl) [(0, .d), (1, .d)] rfl ?_
      refine r_d rfl rfl rfl (s_ar (r := t11_6 + 1) rfl rfl rfl rfl (by omega)) ?_
      refine r_d rfl rfl rfl (s_move rfl rfl) ?_
      refine r_end ?_
      refine g_sub [(2, .clo (.func 163) [] [.ptr (.ref b_o0 0 []), .ptr (.int .i64 one_a2_c1)]), (10, .int .i64 r_3.1), (7, .own u17_12 (l_12.map (D.int .i64))), (11, .int .i64 (t11_6 + 1))] (Sub.cons' rfl (Sub.cons' rfl (Sub.cons' rfl (Sub.cons' rfl (Sub.nil _))))) ?_
      refine g_perm [_, _] _ ((pf0 _).trans (pf1 _ _ _)) ?_
      exact IH0 _ _ _ (by omega) ⟨l_12, (t11_6 + 1), r_11.2, u17_12, _, rfl, rfl, rfl, hi0', hr⟩

noncomputable def lf_Psnapshot_reader_numbers_s1 (most_a1 : Int) (high_a2 : Int) (c_0 : S_snapshot_reader) : Option (Int ⊕ ((List Int) × S_snapshot_reader)) :=
  (bindX (lf_snapshot_take_s10 most_a1 high_a2 c_0) fun r_1 =>
  some (.inr (r_1.1, r_1.2)))

set_option maxHeartbeats 1000000 in
theorem lg_Psnapshot_reader_numbers_s1 (most_a1 : Int) (high_a2 : Int) (c_0 : S_snapshot_reader) (b_o0 : Nat) (res : Int ⊕ ((List Int) × S_snapshot_reader)) (hr : lf_Psnapshot_reader_numbers_s1 most_a1 high_a2 c_0 = some res) : SpecX Tryz.prog 87 [.ref b_o0 0 [], .int .i64 most_a1, .int .i64 high_a2] [.cell b_o0 (enc_S_snapshot_reader c_0)] (fun d σ => ∃ r : (List Int) × S_snapshot_reader, res = .inr r ∧ d = .lst (r.1.map (D.int .i64)) ∧ σ = [.cell b_o0 (enc_S_snapshot_reader r.2)]) (fun d => ∃ c, res = .inl c ∧ d = .ifc 191 (.agg [.int .i64 c])) := by
  unfold lf_Psnapshot_reader_numbers_s1 at hr
  refine spec_envX [(0, .ref b_o0 0 []), (1, .int .i64 most_a1), (2, .int .i64 high_a2)] Tryz.func87 rfl rfl fun K hK hX => ?_
  refine g_seq ?_
  refine g_run (by kernel_rfl) [(0, .d), (1, .d), (2, .d)] rfl ?_
  refine r_d rfl rfl rfl (s_box rfl rfl rfl) ?_
  refine r_d rfl rfl rfl (s_box rfl rfl rfl) ?_
  refine r_d rfl rfl rfl (s_assign rfl rfl) ?_
  refine r_end ?_
  refine g_seq ?_
  refine g_run (by kernel_rfl) [(0, .d), (1, .d), (2, .d), (3, .w), (4, .d)] rfl ?_
  refine r_d rfl rfl rfl (s_load rfl rfl (by exact ty_P_snapshot_reader) rfl) ?_
  refine r_d rfl rfl rfl (s_move rfl rfl) ?_
  refine r_d rfl rfl rfl (s_makeFunc rfl rfl rfl) ?_
  rcases bindXS hr with ⟨c_r_1, hr_1, rfl⟩ | ⟨r_1, hr_1, hr⟩
  ·
   refine r_die rfl rfl (s_callX _ rfl cl_snapshot_take_int (.cons rfl (Wk.refl _) (.cons rfl (Wk.refl _) (.cons rfl (Wk.refl _) .nil))) (by exact (pf0 _)) (specX_inl (lg_snapshot_take_s10 _ _ _ _ _ hr_1))) (hX _ ⟨_, rfl, rfl⟩)
  ·
   refine r_w rfl rfl rfl (s_call _ rfl cl_snapshot_take_int (.cons rfl (Wk.refl _) (.cons rfl (Wk.refl _) (.cons rfl (Wk.refl _) .nil))) (by exact (pf0 _)) (specX_inr (lg_snapshot_take_s10 _ _ _ _ _ hr_1))) ?_
   rintro _ _ ⟨_, ⟨rfl, rfl⟩, rfl⟩
   refine r_st ((.cell b_o0 (enc_S_snapshot_reader r_1.2)) :: _) rfl ?_
   refine r_d rfl rfl rfl (s_assign rfl rfl) ?_
   refine r_end ?_
   obtain rfl := Option.some.inj hr
   refine g_ret Tryz.func87 _ (.cons (resTmp rfl (Wk.refl _)) .nil) ?_
   exact ⟨_, rfl, rfl, rfl⟩

noncomputable def lf_snapshot_TakeConfig_1_2_s1 (c_0 : S_snapshot_reader) : Option (Int ⊕ (S_api_Fire × S_snapshot_reader)) :=
  (bindX (lf_Psnapshot_reader_number_s1 0 40 c_0) fun r_2 =>
  (bindX (lf_Psnapshot_reader_numbers_s1 4 2147483648 r_2.2) fun r_3 =>
  some (.inr ((⟨r_2.1, r_3.1⟩ : S_api_Fire), r_3.2))))

set_option maxHeartbeats 1000000 in
theorem lg_snapshot_TakeConfig_1_2_s1 (c_0 : S_snapshot_reader) (b_o0 : Nat) (res : Int ⊕ (S_api_Fire × S_snapshot_reader)) (hr : lf_snapshot_TakeConfig_1_2_s1 c_0 = some res) : SpecX Tryz.prog 86 [.ptr (.ref b_o0 0 [])] [.cell b_o0 (enc_S_snapshot_reader c_0)] (fun d σ => ∃ r : S_api_Fire × S_snapshot_reader, res = .inr r ∧ d = enc_S_api_Fire r.1 ∧ σ = [.cell b_o0 (enc_S_snapshot_reader r.2)]) (fun d => ∃ c, res = .inl c ∧ d = .ifc 191 (.agg [.int .i64 c])) := by
  unfold lf_snapshot_TakeConfig_1_2_s1 at hr
  refine spec_envX [(0, .ptr (.ref b_o0 0 []))] Tryz.func86 rfl rfl fun K hK hX => ?_
  refine g_seq ?_
  refine g_run (by kernel_rfl) [(0, .w)] rfl ?_
  refine r_w rfl rfl rfl (s_alloc rfl zv_api_Fire) ?_
  rintro _ _ ⟨b1_0, rfl, rfl⟩
  refine r_end ?_
  refine g_seq ?_
  refine g_run (by kernel_rfl) [(0, .d), (1, .w), (2, .d)] rfl ?_
  refine r_d rfl rfl rfl (s_load rfl rfl (by exact ty_P_snapshot_reader) rfl) ?_
  rcases bindXS hr with ⟨c_r_2, hr_2, rfl⟩ | ⟨r_2, hr_2, hr⟩
  ·
   refine r_die rfl rfl (s_callX _ rfl cl_Psnapshot_reader_number (.cons rfl (Wk.refl _) (.cons rfl (Wk.refl _) (.cons rfl (Wk.refl _) .nil))) (by exact (pf1 _ _ _)) (specX_inl (lg_Psnapshot_reader_number_s1 _ _ _ _ _ hr_2))) (hX _ ⟨_, rfl, rfl⟩)
  ·
   refine r_w rfl rfl rfl (s_call _ rfl cl_Psnapshot_reader_number (.cons rfl (Wk.refl _) (.cons rfl (Wk.refl _) (.cons rfl (Wk.refl _) .nil))) (by exact (pf1 _ _ _)) (specX_inr (lg_Psnapshot_reader_number_s1 _ _ _ _ _ hr_2))) ?_
   rintro _ _ ⟨_, ⟨rfl, rfl⟩, rfl⟩
   refine r_st ((.cell b_o0 (enc_S_snapshot_reader r_2.2)) :: _) rfl ?_
   refine r_d rfl rfl rfl (s_assign rfl rfl) ?_
   refine r_end ?_
   refine g_seq ?_
   refine g_run (by kernel_rfl) [(0, .d), (1, .d), (2, .w), (3, .d), (4, .w)] rfl ?_
   refine r_d rfl rfl rfl (s_move rfl rfl) ?_
   refine r_d rfl rfl rfl (s_load rfl rfl (by exact ty_P_snapshot_reader) rfl) ?_
   rcases bindXS hr with ⟨c_r_3, hr_3, rfl⟩ | ⟨r_3, hr_3, hr⟩
   ·
    refine r_die rfl rfl (s_callX _ rfl cl_Psnapshot_reader_numbers (.cons rfl (Wk.refl _) (.cons rfl (Wk.refl _) (.cons rfl (Wk.refl _) .nil))) (by exact (pf0 _)) (specX_inl (lg_Psnapshot_reader_numbers_s1 _ _ _ _ _ hr_3))) (hX _ ⟨_, rfl, rfl⟩)
   ·
    refine r_w rfl rfl rfl (s_call _ rfl cl_Psnapshot_reader_numbers (.cons rfl (Wk.refl _) (.cons rfl (Wk.refl _) (.cons rfl (Wk.refl _) .nil))) (by exact (pf0 _)) (specX_inr (lg_Psnapshot_reader_numbers_s1 _ _ _ _ _ hr_3))) ?_
    rintro _ _ ⟨_, ⟨rfl, rfl⟩, rfl⟩
    refine r_st ((.cell b_o0 (enc_S_snapshot_reader r_3.2)) :: _) rfl ?_
    refine r_d rfl rfl rfl (s_build rfl bt_api_Fire (.cons rfl (Wk.refl _) (.cons rfl (Wk.refl _) .nil)) (.cons rfl rfl rfl (.cons rfl rfl rfl (.nil _)))) ?_
    refine r_w01 rfl rfl rfl (t_store0 _ rfl rfl rfl (Wk.refl _) (pf1 _ _ _) (by exact ty_api_Fire) rfl rfl rfl) ?_
    refine r_end ?_
    refine g_freeze 1 b1_0 rfl (pf0 _) ?_
    obtain rfl := Option.some.inj hr
    refine g_ret Tryz.func86 _ (.cons (resPtr rfl (by exact ty_api_Fire) rfl (Wk.refl _)) .nil) ?_
    exact ⟨_, rfl, rfl, rfl⟩

noncomputable def lf_snapshot_take_s9_L0 (k : ((List S_api_Fire)) → (S_snapshot_reader) → Option (Int ⊕ ((List S_api_Fire) × S_snapshot_reader))) : Nat → (List S_api_Fire) → S_snapshot_reader → Option (Int ⊕ ((List S_api_Fire) × S_snapshot_reader))
  | 0, out_5, r_7 =>
  (k out_5 r_7)
  | rest + 1, out_5, r_7 =>
  (bindX (lf_snapshot_TakeConfig_1_2_s1 r_7) fun r_11 =>
  ((appO 32 out_5 [r_11.1]).bind fun l_12 =>
  (lf_snapshot_take_s9_L0 k rest l_12 r_11.2)))
noncomputable def lf_snapshot_take_s9 (most_a1 : Int) (c_0 : S_snapshot_reader) : Option (Int ⊕ ((List S_api_Fire) × S_snapshot_reader)) :=
  (bindX (lf_Psnapshot_reader_number_s1 0 most_a1 c_0) fun r_3 =>
  (lf_snapshot_take_s9_L0 (fun out_9 r_10 =>
  some (.inr (out_9, r_10))) (r_3.1 - 0 : Int).toNat [] r_3.2))

set_option maxHeartbeats 1000000 in
theorem lg_snapshot_take_s9 (most_a1 : Int) (c_0 : S_snapshot_reader) (b_o0 : Nat) (res : Int ⊕ ((List S_api_Fire) × S_snapshot_reader)) (hr : lf_snapshot_take_s9 most_a1 c_0 = some res) : SpecX Tryz.prog 85 [.ref b_o0 0 [], .int .i64 most_a1, .clo (.func 86) [] [.ptr (.ref b_o0 0 [])]] [.cell b_o0 (enc_S_snapshot_reader c_0)] (fun d σ => ∃ r : (List S_api_Fire) × S_snapshot_reader, res = .inr r ∧ d = .lst (r.1.map enc_S_api_Fire) ∧ σ = [.cell b_o0 (enc_S_snapshot_reader r.2)]) (fun d => ∃ c, res = .inl c ∧ d = .ifc 191 (.agg [.int .i64 c])) := by
  unfold lf_snapshot_take_s9 at hr
  refine spec_envX [(0, .ref b_o0 0 []), (1, .int .i64 most_a1), (2, .clo (.func 86) [] [.ptr (.ref b_o0 0 [])])] Tryz.func85 rfl rfl fun K hK hX => ?_
  refine g_seq ?_
  refine g_run (by kernel_rfl) [(0, .w)] rfl ?_
  refine r_w rfl rfl rfl (s_nilOwn 123 2 (.inl rfl)) ?_
  rintro _ _ ⟨u6_0, rfl, rfl⟩
  refine r_end ?_
  refine g_seq ?_
  refine g_run (by kernel_rfl) [(0, .w)] rfl ?_
  refine r_w rfl rfl rfl (s_nilOwn 123 2 (.inl rfl)) ?_
  rintro _ _ ⟨u7_1, rfl, rfl⟩
  refine r_end ?_
  refine g_seq ?_
  refine g_seq ?_
  refine g_run (by kernel_rfl) [(0, .d), (1, .d), (2, .w), (3, .d)] rfl ?_
  refine r_d rfl rfl rfl (s_move rfl rfl) ?_
  refine r_d rfl rfl rfl (s_move rfl rfl) ?_
  rcases bindXS hr with ⟨c_r_3, hr_3, rfl⟩ | ⟨r_3, hr_3, hr⟩
  ·
   refine r_die rfl rfl (s_callX _ rfl cl_Psnapshot_reader_number (.cons rfl (Wk.refl _) (.cons rfl (Wk.refl _) (.cons rfl (Wk.refl _) .nil))) (by exact (pf2 _ _ _ _)) (specX_inl (lg_Psnapshot_reader_number_s1 _ _ _ _ _ hr_3))) (hX _ ⟨_, rfl, rfl⟩)
  ·
   refine r_w rfl rfl rfl (s_call _ rfl cl_Psnapshot_reader_number (.cons rfl (Wk.refl _) (.cons rfl (Wk.refl _) (.cons rfl (Wk.refl _) .nil))) (by exact (pf2 _ _ _ _)) (specX_inr (lg_Psnapshot_reader_number_s1 _ _ _ _ _ hr_3))) ?_
   rintro _ _ ⟨_, ⟨rfl, rfl⟩, rfl⟩
   refine r_st ((.cell b_o0 (enc_S_snapshot_reader r_3.2)) :: _) rfl ?_
   refine r_d rfl rfl rfl (s_move rfl rfl) ?_
   refine r_end ?_
   obtain ⟨kk0, hkk0, hr⟩ := exK (fun k => lf_snapshot_take_s9_L0 k (r_3.1 - 0 : Int).toNat [] r_3.2) hr
   refine g_int 10 rfl fun hla0 => ?_
   refine g_blockJ (fun env σ => ∃ (out_9 : (List S_api_Fire)) (r_10 : S_snapshot_reader) (u_8 : Value), env = [(7, .own u_8 (out_9.map enc_S_api_Fire))] ∧ σ = [.row u_8 out_9.length 123 2, .cell b_o0 (enc_S_snapshot_reader r_10)] ∧ kk0 out_9 r_10 = some res) ?_ (fun HK0 => ?_)
   ·
    rintro _ _ ⟨out_9, r_10, u_8, rfl, rfl, hr⟩
    rw [hkk0] at hr
    refine g_seq ?_
    refine g_run (by kernel_rfl) [(0, .d), (1, .d)] rfl ?_
    refine r_d rfl rfl rfl (s_move rfl rfl) ?_
    refine r_d rfl rfl rfl (s_assign rfl rfl) ?_
    refine r_end ?_
    refine g_perm [_] _ (pf1 _ _ _) ?_
    obtain rfl := Option.some.inj hr
    refine g_ret Tryz.func85 _ (.cons (resTmp rfl (Wk.own _ _)) .nil) ?_
    exact ⟨_, rfl, rfl, rfl⟩
   ·
    refine g_sub [(2, .clo (.func 86) [] [.ptr (.ref b_o0 0 [])]), (10, .int .i64 r_3.1), (7, .own u7_1 ([].map enc_S_api_Fire)), (11, .int .i64 0)] (Sub.cons' rfl (Sub.cons' rfl (Sub.cons' rfl (Sub.cons' rfl (Sub.nil _))))) ?_
    refine g_perm [_, _] _ ((pf1 _ _ _).trans (pf1 _ _ _)) ?_
    refine g_loop (fun n env σ => ∃ (out_5 : (List S_api_Fire)) (t11_6 : Int) (r_7 : S_snapshot_reader) (u_4 : Value) (m0 : Nat), (m0 = n) ∧ (env = [(2, .clo (.func 86) [] [.ptr (.ref b_o0 0 [])]), (10, .int .i64 r_3.1), (7, .own u_4 (out_5.map enc_S_api_Fire)), (11, .int .i64 t11_6)]) ∧ (σ = [.cell b_o0 (enc_S_snapshot_reader r_7), .row u_4 out_5.length 123 2]) ∧ (m0 = (r_3.1 - t11_6 : Int).toNat) ∧ (lf_snapshot_take_s9_L0 kk0 m0 out_5 r_7 = some res)) _ ⟨[], 0, r_3.2, u7_1, _, rfl, rfl, rfl, rfl, hr⟩ ?_
    rintro n _ _ ⟨out_5, t11_6, r_7, u_4, m0, rfl, rfl, rfl, hi0, hr⟩ IH0
    refine g_int 11 rfl fun hb0 => ?_
    rcases cntStep t11_6 r_3.1 m0 hi0 with ⟨hm0, ht0⟩ | ⟨m0', hm0, ht0, hi0', hlt0⟩
    ·
     rw [hm0, lf_snapshot_take_s9_L0] at hr
     refine g_seq ?_
     refine g_run (by kernel_rfl) [(0, .d)] rfl ?_
     refine r_d rfl rfl rfl (s_cmp rfl rfl rfl rfl) ?_
     refine r_end ?_
     refine g_seq ?_
     refine g_known 12 false rfl ht0 ?_
     refine g_condF rfl ?_
     refine g_exit rfl ?_
     refine g_sub [(7, .own u_4 (out_5.map enc_S_api_Fire))] (Sub.cons' rfl (Sub.nil _)) ?_
     refine g_perm [_, _] _ ((pf0 _).trans (pf1 _ _ _)) ?_
     exact HK0 _ _ ⟨out_5, r_7, u_4, rfl, rfl, hr⟩
    ·
     rw [hm0, lf_snapshot_take_s9_L0] at hr
     refine g_seq ?_
     refine g_run (by kernel_rfl) [(0, .d)] rfl ?_
     refine r_d rfl rfl rfl (s_cmp rfl rfl rfl rfl) ?_
     refine r_end ?_
     refine g_seq ?_
     refine g_int 10 rfl fun hbN10 => ?_
     refine g_known 12 true rfl ht0 ?_
     refine g_condT rfl ?_
     refine g_skip ?_
     refine g_seq ?_
     refine g_block ?_
     refine g_run (by kernel_rfl) [(0, .d), (1, .d), (2, .w), (3, .d), (4, .w), (5, .d)] rfl ?_
     refine r_d rfl rfl rfl (s_move rfl rfl) ?_
     refine r_d rfl rfl rfl (s_move rfl rfl) ?_
     rcases bindXS hr with ⟨c_r_11, hr_11, rfl⟩ | ⟨r_11, hr_11, hr⟩
     ·
      refine r_die rfl rfl (s_callVX _ rfl rfl cl_snapshot_TakeConfig_1_2 .nil rfl (by exact (pf0 _)) (specX_inl (lg_snapshot_TakeConfig_1_2_s1 _ _ _ hr_11))) (hX _ ⟨_, rfl, rfl⟩)
     ·
      refine r_w rfl rfl rfl (s_callV _ rfl rfl cl_snapshot_TakeConfig_1_2 .nil rfl (by exact (pf0 _)) (specX_inr (lg_snapshot_TakeConfig_1_2_s1 _ _ _ hr_11))) ?_
      rintro _ _ ⟨_, ⟨rfl, rfl⟩, rfl⟩
      refine r_st ((.cell b_o0 (enc_S_snapshot_reader r_11.2)) :: _) rfl ?_
      refine r_d rfl rfl rfl (m_lit (f := enc_S_api_Fire) [.tmp 15] [r_11.1] rfl el_L_api_Fire rfl rfl (by decide) (by decide) (.cons rfl (Wk.refl _) .nil) sz_S_api_Fire (fun _ => rfl)) ?_
      obtain ⟨l_12, hl_12, hr⟩ := bindS hr
      refine r_w rfl rfl rfl (m_appOwn (f := enc_S_api_Fire) out_5 [r_11.1] rfl el_L_api_Fire rfl rfl (asl rfl) (pf1 _ _ _) rfl sz_S_api_Fire hl_12) ?_
      rintro _ _ ⟨u17_12, rfl, rfl⟩
      refine r_d rfl rfl rfl (s_assign rfl rfl) ?_
      refine r_end ?_
      refine g_inBlock ?_
      refine g_run (by kernel_rfl) [(0, .d), (1, .d)] rfl ?_
      refine r_d rfl rfl rfl (s_ar (r := t11_6 + 1) rfl rfl rfl rfl (by omega)) ?_
      refine r_d rfl rfl rfl (s_move rfl rfl) ?_
      refine r_end ?_
      refine g_sub [(2, .clo (.func 86) [] [.ptr (.ref b_o0 0 [])]), (10, .int .i64 r_3.1), (7, .own u17_12 (l_12.map enc_S_api_Fire)), (11, .int .i64 (t11_6 + 1))] (Sub.cons' rfl (Sub.cons' rfl (Sub.cons' rfl (Sub.cons' rfl (Sub.nil _))))) ?_
      refine g_perm [_, _] _ ((pf0 _).trans (pf1 _ _ _)) ?_
      exact IH0 _ _ _ (by omega) ⟨l_12, (t11_6 + 1), r_11.2, u17_12, _, rfl, rfl, rfl, hi0', hr⟩

noncomputable def lf_codec_Bool (b_a0 : (List Int)) (at_a1 : Int) : Option (Bool × Int × Int) :=
  (bif (decide (at_a1 < (0 : Int))) then
  some (false, 0, 2)
  else
  (bif (decide (at_a1 > (b_a0.length : Int))) then
  some (false, 0, 2)
  else
  (bif (at_a1 == (b_a0.length : Int)) then
  some (false, 0, 4)
  else
  ((getI b_a0 at_a1).bind fun q_4 =>
  (bif (decide (q_4 > (1 : Int))) then
  some (false, 0, 3)
  else
  some ((q_4 == (1 : Int)), (wr (at_a1 + (1 : Int))), 0))))))

set_option maxHeartbeats 1000000 in
theorem lg_codec_Bool (b_a0 : (List Int)) (at_a1 : Int) (res : Bool × Int × Int) (hr : lf_codec_Bool b_a0 at_a1 = some res) : Gives Tryz.prog 164 [.lst (b_a0.map (D.int .u8)), .int .i64 at_a1] (.tup [.bool res.1, .int .i64 res.2.1, .int .i64 res.2.2]) := by
  unfold lf_codec_Bool at hr
  refine spec_env [(0, .lst (b_a0.map (D.int .u8))), (1, .int .i64 at_a1)] Tryz.func164 rfl rfl fun K hK => ?_
  refine g_seq ?_
  refine g_run (by kernel_rfl) [(0, .d), (1, .d), (2, .d)] rfl ?_
  refine r_d rfl rfl rfl (s_assign rfl rfl) ?_
  refine r_d rfl rfl rfl (s_assign rfl rfl) ?_
  refine r_d rfl rfl rfl (s_assign rfl rfl) ?_
  refine r_end ?_
  refine g_seq ?_
  refine g_block ?_
  refine g_seq ?_
  refine g_run (by kernel_rfl) [(0, .d), (1, .d), (2, .d), (3, .d), (4, .d), (5, .d), (6, .d), (7, .d), (8, .d)] rfl ?_
  refine r_d rfl rfl rfl (s_move rfl rfl) ?_
  refine r_d rfl rfl rfl (s_cmp rfl rfl rfl rfl) ?_
  refine r_d rfl rfl rfl (s_move rfl rfl) ?_
  refine r_sB 10 rfl hr (fun h10_0 hr => ?_) (fun h10_0 hr => ?_)
  ·
   refine r_skip rfl rfl rfl ?_
   refine r_skip rfl rfl rfl ?_
   refine r_skip rfl rfl rfl ?_
   refine r_skip rfl rfl rfl ?_
   refine r_d rfl rfl rfl (s_pickT rfl rfl rfl) ?_
   refine r_d rfl rfl rfl (s_assign rfl rfl) ?_
   refine r_end ?_
   refine g_condT rfl ?_
   refine g_seq ?_
   refine g_run (by kernel_rfl) [(0, .d), (1, .d), (2, .d)] rfl ?_
   refine r_d rfl rfl rfl (s_assign rfl rfl) ?_
   refine r_d rfl rfl rfl (s_assign rfl rfl) ?_
   refine r_d rfl rfl rfl (s_assign rfl rfl) ?_
   refine r_end ?_
   obtain rfl := Option.some.inj hr
   refine g_ret Tryz.func164 _ (.cons (resTmp rfl (Wk.refl _)) (.cons (resTmp rfl (Wk.refl _)) (.cons (resTmp rfl (Wk.refl _)) .nil))) ?_
   rfl
  ·
   refine r_d rfl rfl rfl (s_move rfl rfl) ?_
   refine r_d rfl rfl rfl (s_move rfl rfl) ?_
   refine r_d rfl rfl rfl (m_len (f := (D.int .u8)) b_a0 rfl el_L_uint8 rfl (asl rfl)) ?_
   refine r_d rfl rfl rfl (s_cmp rfl rfl rfl rfl) ?_
   refine r_d rfl rfl rfl (s_pickF rfl rfl rfl) ?_
   refine r_d rfl rfl rfl (s_assign rfl rfl) ?_
   refine r_end ?_
   refine g_sB 7 rfl hr (fun h7_1 hr => ?_) (fun h7_1 hr => ?_)
   ·
    refine g_condT rfl ?_
    refine g_seq ?_
    refine g_run (by kernel_rfl) [(0, .d), (1, .d), (2, .d)] rfl ?_
    refine r_d rfl rfl rfl (s_assign rfl rfl) ?_
    refine r_d rfl rfl rfl (s_assign rfl rfl) ?_
    refine r_d rfl rfl rfl (s_assign rfl rfl) ?_
    refine r_end ?_
    obtain rfl := Option.some.inj hr
    refine g_ret Tryz.func164 _ (.cons (resTmp rfl (Wk.refl _)) (.cons (resTmp rfl (Wk.refl _)) (.cons (resTmp rfl (Wk.refl _)) .nil))) ?_
    rfl
   ·
    refine g_condF rfl ?_
    refine g_seq ?_
    refine g_run (by kernel_rfl) [(0, .d), (1, .d), (2, .d), (3, .d), (4, .d)] rfl ?_
    refine r_d rfl rfl rfl (s_move rfl rfl) ?_
    refine r_d rfl rfl rfl (s_move rfl rfl) ?_
    refine r_d rfl rfl rfl (m_len (f := (D.int .u8)) b_a0 rfl el_L_uint8 rfl (asl rfl)) ?_
    refine r_d rfl rfl rfl (s_cmp rfl rfl rfl rfl) ?_
    refine r_d rfl rfl rfl (s_assign rfl rfl) ?_
    refine r_end ?_
    refine g_sB 16 rfl hr (fun h16_2 hr => ?_) (fun h16_2 hr => ?_)
    ·
     refine g_condT rfl ?_
     refine g_seq ?_
     refine g_run (by kernel_rfl) [(0, .d), (1, .d), (2, .d)] rfl ?_
     refine r_d rfl rfl rfl (s_assign rfl rfl) ?_
     refine r_d rfl rfl rfl (s_assign rfl rfl) ?_
     refine r_d rfl rfl rfl (s_assign rfl rfl) ?_
     refine r_end ?_
     obtain rfl := Option.some.inj hr
     refine g_ret Tryz.func164 _ (.cons (resTmp rfl (Wk.refl _)) (.cons (resTmp rfl (Wk.refl _)) (.cons (resTmp rfl (Wk.refl _)) .nil))) ?_
     rfl
    ·
     refine g_condF rfl ?_
     refine g_seq ?_
     refine g_run (by kernel_rfl) [(0, .d), (1, .d), (2, .d), (3, .d), (4, .d), (5, .d)] rfl ?_
     refine r_d rfl rfl rfl (s_move rfl rfl) ?_
     refine r_d rfl rfl rfl (s_move rfl rfl) ?_
     obtain ⟨q_4, hq_4, hr⟩ := bindS hr
     refine r_d rfl rfl rfl (m_index (f := (D.int .u8)) b_a0 rfl el_L_uint8 rfl (asl rfl) rfl hq_4 (fun _ => rfl) rfl) ?_
     refine r_d rfl rfl rfl (s_load rfl rfl (by exact ty_uint8) rfl) ?_
     refine r_d rfl rfl rfl (s_cmp rfl rfl rfl rfl) ?_
     refine r_d rfl rfl rfl (s_assign rfl rfl) ?_
     refine r_end ?_
     refine g_sB 21 rfl hr (fun h21_4 hr => ?_) (fun h21_4 hr => ?_)
     ·
      refine g_condT rfl ?_
      refine g_seq ?_
      refine g_run (by kernel_rfl) [(0, .d), (1, .d), (2, .d)] rfl ?_
      refine r_d rfl rfl rfl (s_assign rfl rfl) ?_
      refine r_d rfl rfl rfl (s_assign rfl rfl) ?_
      refine r_d rfl rfl rfl (s_assign rfl rfl) ?_
      refine r_end ?_
      obtain rfl := Option.some.inj hr
      refine g_ret Tryz.func164 _ (.cons (resTmp rfl (Wk.refl _)) (.cons (resTmp rfl (Wk.refl _)) (.cons (resTmp rfl (Wk.refl _)) .nil))) ?_
      rfl
     ·
      refine g_condF rfl ?_
      refine g_skip ?_
      refine g_inBlock ?_
      refine g_seq ?_
      refine g_run (by kernel_rfl) [(0, .d), (1, .d), (2, .d), (3, .d), (4, .d), (5, .d), (6, .d), (7, .d), (8, .d), (9, .d)] rfl ?_
      refine r_d rfl rfl rfl (s_move rfl rfl) ?_
      refine r_d rfl rfl rfl (s_move rfl rfl) ?_
      refine r_d rfl rfl rfl (m_index (f := (D.int .u8)) b_a0 rfl el_L_uint8 rfl (asl rfl) rfl hq_4 (fun _ => rfl) rfl) ?_
      refine r_d rfl rfl rfl (s_load rfl rfl (by exact ty_uint8) rfl) ?_
      refine r_d rfl rfl rfl (s_cmp rfl rfl rfl rfl) ?_
      refine r_d rfl rfl rfl (s_move rfl rfl) ?_
      refine r_d rfl rfl rfl (s_arW rfl rfl rfl rfl) ?_
      refine r_d rfl rfl rfl (s_assign rfl rfl) ?_
      refine r_d rfl rfl rfl (s_assign rfl rfl) ?_
      refine r_d rfl rfl rfl (s_assign rfl rfl) ?_
      refine r_end ?_
      obtain rfl := Option.some.inj hr
      refine g_ret Tryz.func164 _ (.cons (resTmp rfl (Wk.refl _)) (.cons (resTmp rfl (Wk.refl _)) (.cons (resTmp rfl (Wk.refl _)) .nil))) ?_
      rfl

noncomputable def lf_Psnapshot_reader_flag_s1 (c_0 : S_snapshot_reader) : Option (Int ⊕ (Bool × S_snapshot_reader)) :=
  ((lf_codec_Bool c_0.f0_b c_0.f1_at).bind fun r_1 =>
  (bindX (lf_Psnapshot_reader_done_s1 r_1.2.1 r_1.2.2 c_0) fun r_2 =>
  some (.inr (r_1.1, r_2))))

set_option maxHeartbeats 1000000 in
theorem lg_Psnapshot_reader_flag_s1 (c_0 : S_snapshot_reader) (b_o0 : Nat) (res : Int ⊕ (Bool × S_snapshot_reader)) (hr : lf_Psnapshot_reader_flag_s1 c_0 = some res) : SpecX Tryz.prog 88 [.ref b_o0 0 []] [.cell b_o0 (enc_S_snapshot_reader c_0)] (fun d σ => ∃ r : Bool × S_snapshot_reader, res = .inr r ∧ d = .bool r.1 ∧ σ = [.cell b_o0 (enc_S_snapshot_reader r.2)]) (fun d => ∃ c, res = .inl c ∧ d = .ifc 191 (.agg [.int .i64 c])) := by
  unfold lf_Psnapshot_reader_flag_s1 at hr
  refine spec_envX [(0, .ref b_o0 0 [])] Tryz.func88 rfl rfl fun K hK hX => ?_
  refine g_seq ?_
  refine g_run (by kernel_rfl) [(0, .d)] rfl ?_
  refine r_d rfl rfl rfl (s_assign rfl rfl) ?_
  refine r_end ?_
  refine g_seq ?_
  refine g_anyX (by kernel_rfl) (by kernel_rfl) [(0, .d), (1, .d), (2, .d), (3, .r), (4, .d), (5, .d), (6, .d), (7, .r), (8, .d), (9, .d), (10, .d), (11, .d), (12, .d), (13, .d), (14, .d), (15, .d)] (by kernel_rfl) ?_
  refine r_d rfl rfl rfl (s_move rfl rfl) ?_
  refine r_d rfl rfl rfl (s_nilCheckR rfl rfl) ?_
  refine r_d rfl rfl rfl (s_fieldRef rfl fl_snapshot_reader_0 rfl) ?_
  refine r_r rfl rfl rfl (t_loadRef rfl rfl (.head _) rfl rfl (by exact ty_L_uint8) rfl) ?_
  refine r_d rfl rfl rfl (s_move rfl rfl) ?_
  refine r_d rfl rfl rfl (s_nilCheckR rfl rfl) ?_
  refine r_d rfl rfl rfl (s_fieldRef rfl fl_snapshot_reader_1 rfl) ?_
  refine r_r rfl rfl rfl (t_loadRef rfl rfl (.head _) rfl rfl (by exact ty_int) rfl) ?_
  obtain ⟨r_1, hr_1, hr⟩ := bindS hr
  refine r_d rfl rfl rfl (s_callD rfl cl_codec_Bool (.cons rfl (Wk.refl _) (.cons rfl (Wk.refl _) .nil)) (lg_codec_Bool _ _ _ hr_1)) ?_
  refine r_d rfl rfl rfl (s_move rfl rfl) ?_
  refine r_d rfl rfl rfl (s_extract rfl rfl rfl) ?_
  refine r_d rfl rfl rfl (s_extract rfl rfl rfl) ?_
  refine r_d rfl rfl rfl (s_extract rfl rfl rfl) ?_
  refine r_d rfl rfl rfl (s_assign rfl rfl) ?_
  refine r_d rfl rfl rfl (s_assign rfl rfl) ?_
  refine r_d rfl rfl rfl (s_assign rfl rfl) ?_
  refine r_end ?_
  refine g_seq ?_
  refine g_run (by kernel_rfl) [(0, .d), (1, .d), (2, .d), (3, .w)] rfl ?_
  refine r_d rfl rfl rfl (s_move rfl rfl) ?_
  refine r_d rfl rfl rfl (s_move rfl rfl) ?_
  refine r_d rfl rfl rfl (s_move rfl rfl) ?_
  rcases bindXS hr with ⟨c_r_2, hr_2, rfl⟩ | ⟨r_2, hr_2, hr⟩
  ·
   refine r_die rfl rfl (s_callX _ rfl cl_Psnapshot_reader_done (.cons rfl (Wk.refl _) (.cons rfl (Wk.refl _) (.cons rfl (Wk.refl _) .nil))) (by exact (pf0 _)) (specX_inl (lg_Psnapshot_reader_done_s1 _ _ _ _ _ hr_2))) (hX _ ⟨_, rfl, rfl⟩)
  ·
   refine r_w rfl rfl rfl (s_call _ rfl cl_Psnapshot_reader_done (.cons rfl (Wk.refl _) (.cons rfl (Wk.refl _) (.cons rfl (Wk.refl _) .nil))) (by exact (pf0 _)) (specX_inr (lg_Psnapshot_reader_done_s1 _ _ _ _ _ hr_2))) ?_
   rintro _ _ ⟨_, ⟨rfl, rfl⟩, rfl⟩
   refine r_st ((.cell b_o0 (enc_S_snapshot_reader r_2)) :: _) rfl ?_
   refine r_end ?_
   refine g_seq ?_
   refine g_run (by kernel_rfl) [(0, .d), (1, .d)] rfl ?_
   refine r_d rfl rfl rfl (s_move rfl rfl) ?_
   refine r_d rfl rfl rfl (s_assign rfl rfl) ?_
   refine r_end ?_
   obtain rfl := Option.some.inj hr
   refine g_ret Tryz.func88 _ (.cons (resTmp rfl (Wk.refl _)) .nil) ?_
   exact ⟨_, rfl, rfl, rfl⟩

noncomputable def lf_snapshot_TakeConfig_1_s1 (fuel : Nat) (c_0 : S_snapshot_reader) : Option (Int ⊕ (S_api_Config × S_snapshot_reader)) :=
  (bindX (lf_snapshot_take_s6 fuel 1000 c_0) fun r_2 =>
  (bindX (lf_snapshot_take_s7 fuel 500 r_2.2) fun r_3 =>
  (bindX (lf_snapshot_take_s8 fuel 1048576 r_3.2) fun r_4 =>
  (bindX (lf_snapshot_take_s9 5000 r_4.2) fun r_5 =>
  (bindX (lf_Psnapshot_reader_number_s1 0 2147483648 r_5.2) fun r_6 =>
  (bindX (lf_Psnapshot_reader_number_s1 0 1048576 r_6.2) fun r_7 =>
  (bindX (lf_Psnapshot_reader_flag_s1 r_7.2) fun r_8 =>
  some (.inr ((⟨r_2.1, r_3.1, r_4.1, r_5.1, r_6.1, r_7.1, r_8.1⟩ : S_api_Config), r_8.2)))))))))

set_option maxHeartbeats 1000000 in
theorem lg_snapshot_TakeConfig_1_s1 (fuel : Nat) (c_0 : S_snapshot_reader) (b_o0 : Nat) (res : Int ⊕ (S_api_Config × S_snapshot_reader)) (hr : lf_snapshot_TakeConfig_1_s1 fuel c_0 = some res) : SpecX Tryz.prog 77 [.ref b_o0 0 []] [.cell b_o0 (enc_S_snapshot_reader c_0)] (fun d σ => ∃ r : S_api_Config × S_snapshot_reader, res = .inr r ∧ d = enc_S_api_Config r.1 ∧ σ = [.cell b_o0 (enc_S_snapshot_reader r.2)]) (fun d => ∃ c, res = .inl c ∧ d = .ifc 191 (.agg [.int .i64 c])) := by
  unfold lf_snapshot_TakeConfig_1_s1 at hr
  refine spec_envX [(0, .ref b_o0 0 [])] Tryz.func77 rfl rfl fun K hK hX => ?_
  refine g_seq ?_
  refine g_run (by kernel_rfl) [(0, .d), (1, .w)] rfl ?_
  refine r_d rfl rfl rfl (s_box rfl rfl rfl) ?_
  refine r_w rfl rfl rfl (s_alloc rfl zv_api_Config) ?_
  rintro _ _ ⟨b2_0, rfl, rfl⟩
  refine r_end ?_
  refine g_seq ?_
  refine g_run (by kernel_rfl) [(0, .d), (1, .d), (2, .d), (3, .w), (4, .d), (5, .w)] rfl ?_
  refine r_d rfl rfl rfl (s_load rfl rfl (by exact ty_P_snapshot_reader) rfl) ?_
  refine r_d rfl rfl rfl (s_load rfl rfl (by exact ty_P_snapshot_reader) rfl) ?_
  refine r_d rfl rfl rfl (s_makeFunc rfl rfl rfl) ?_
  rcases bindXS hr with ⟨c_r_2, hr_2, rfl⟩ | ⟨r_2, hr_2, hr⟩
  ·
   refine r_die rfl rfl (s_callX _ rfl cl_snapshot_take_api_Frame (.cons rfl (Wk.refl _) (.cons rfl (Wk.refl _) (.cons rfl (Wk.refl _) .nil))) (by exact (pf1 _ _ _)) (specX_inl (lg_snapshot_take_s6 fuel _ _ _ _ hr_2))) (hX _ ⟨_, rfl, rfl⟩)
  ·
   refine r_w rfl rfl rfl (s_call _ rfl cl_snapshot_take_api_Frame (.cons rfl (Wk.refl _) (.cons rfl (Wk.refl _) (.cons rfl (Wk.refl _) .nil))) (by exact (pf1 _ _ _)) (specX_inr (lg_snapshot_take_s6 fuel _ _ _ _ hr_2))) ?_
   rintro _ _ ⟨_, ⟨rfl, rfl⟩, rfl⟩
   refine r_st ((.cell b_o0 (enc_S_snapshot_reader r_2.2)) :: _) rfl ?_
   refine r_d rfl rfl rfl (s_fieldRef rfl fl_api_Config_0 rfl) ?_
   refine r_w01 rfl rfl rfl (t_store _ rfl rfl rfl (Wk.refl _) (pf1 _ _ _) rfl rfl (by exact ty_L_api_Frame) rfl rfl rfl) ?_
   refine r_end ?_
   refine g_seq ?_
   refine g_run (by kernel_rfl) [(0, .d), (1, .d), (2, .d), (3, .w), (4, .d), (5, .w)] rfl ?_
   refine r_d rfl rfl rfl (s_load rfl rfl (by exact ty_P_snapshot_reader) rfl) ?_
   refine r_d rfl rfl rfl (s_load rfl rfl (by exact ty_P_snapshot_reader) rfl) ?_
   refine r_d rfl rfl rfl (s_makeFunc rfl rfl rfl) ?_
   rcases bindXS hr with ⟨c_r_3, hr_3, rfl⟩ | ⟨r_3, hr_3, hr⟩
   ·
    refine r_die rfl rfl (s_callX _ rfl cl_snapshot_take_api_Item (.cons rfl (Wk.refl _) (.cons rfl (Wk.refl _) (.cons rfl (Wk.refl _) .nil))) (by exact (pf1 _ _ _)) (specX_inl (lg_snapshot_take_s7 fuel _ _ _ _ hr_3))) (hX _ ⟨_, rfl, rfl⟩)
   ·
    refine r_w rfl rfl rfl (s_call _ rfl cl_snapshot_take_api_Item (.cons rfl (Wk.refl _) (.cons rfl (Wk.refl _) (.cons rfl (Wk.refl _) .nil))) (by exact (pf1 _ _ _)) (specX_inr (lg_snapshot_take_s7 fuel _ _ _ _ hr_3))) ?_
    rintro _ _ ⟨_, ⟨rfl, rfl⟩, rfl⟩
    refine r_st ((.cell b_o0 (enc_S_snapshot_reader r_3.2)) :: _) rfl ?_
    refine r_d rfl rfl rfl (s_fieldRef rfl fl_api_Config_1 rfl) ?_
    refine r_w01 rfl rfl rfl (t_store _ rfl rfl rfl (Wk.refl _) (pf1 _ _ _) rfl rfl (by exact ty_L_api_Item) rfl rfl rfl) ?_
    refine r_end ?_
    refine g_seq ?_
    refine g_run (by kernel_rfl) [(0, .d), (1, .d), (2, .w), (3, .d), (4, .w)] rfl ?_
    refine r_d rfl rfl rfl (s_load rfl rfl (by exact ty_P_snapshot_reader) rfl) ?_
    refine r_d rfl rfl rfl (s_makeFunc rfl rfl rfl) ?_
    rcases bindXS hr with ⟨c_r_4, hr_4, rfl⟩ | ⟨r_4, hr_4, hr⟩
    ·
     refine r_die rfl rfl (s_callX _ rfl cl_snapshot_take_api_Bind (.cons rfl (Wk.refl _) (.cons rfl (Wk.refl _) (.cons rfl (Wk.refl _) .nil))) (by exact (pf1 _ _ _)) (specX_inl (lg_snapshot_take_s8 fuel _ _ _ _ hr_4))) (hX _ ⟨_, rfl, rfl⟩)
    ·
     refine r_w rfl rfl rfl (s_call _ rfl cl_snapshot_take_api_Bind (.cons rfl (Wk.refl _) (.cons rfl (Wk.refl _) (.cons rfl (Wk.refl _) .nil))) (by exact (pf1 _ _ _)) (specX_inr (lg_snapshot_take_s8 fuel _ _ _ _ hr_4))) ?_
     rintro _ _ ⟨_, ⟨rfl, rfl⟩, rfl⟩
     refine r_st ((.cell b_o0 (enc_S_snapshot_reader r_4.2)) :: _) rfl ?_
     refine r_d rfl rfl rfl (s_fieldRef rfl fl_api_Config_2 rfl) ?_
     refine r_w01 rfl rfl rfl (t_store _ rfl rfl rfl (Wk.refl _) (pf1 _ _ _) rfl rfl (by exact ty_api_Binds) rfl rfl rfl) ?_
     refine r_end ?_
     refine g_seq ?_
     refine g_run (by kernel_rfl) [(0, .d), (1, .d), (2, .w), (3, .d), (4, .w)] rfl ?_
     refine r_d rfl rfl rfl (s_load rfl rfl (by exact ty_P_snapshot_reader) rfl) ?_
     refine r_d rfl rfl rfl (s_makeFunc rfl rfl rfl) ?_
     rcases bindXS hr with ⟨c_r_5, hr_5, rfl⟩ | ⟨r_5, hr_5, hr⟩
     ·
      refine r_die rfl rfl (s_callX _ rfl cl_snapshot_take_api_Fire (.cons rfl (Wk.refl _) (.cons rfl (Wk.refl _) (.cons rfl (Wk.refl _) .nil))) (by exact (pf1 _ _ _)) (specX_inl (lg_snapshot_take_s9 _ _ _ _ hr_5))) (hX _ ⟨_, rfl, rfl⟩)
     ·
      refine r_w rfl rfl rfl (s_call _ rfl cl_snapshot_take_api_Fire (.cons rfl (Wk.refl _) (.cons rfl (Wk.refl _) (.cons rfl (Wk.refl _) .nil))) (by exact (pf1 _ _ _)) (specX_inr (lg_snapshot_take_s9 _ _ _ _ hr_5))) ?_
      rintro _ _ ⟨_, ⟨rfl, rfl⟩, rfl⟩
      refine r_st ((.cell b_o0 (enc_S_snapshot_reader r_5.2)) :: _) rfl ?_
      refine r_d rfl rfl rfl (s_fieldRef rfl fl_api_Config_3 rfl) ?_
      refine r_w01 rfl rfl rfl (t_store _ rfl rfl rfl (Wk.refl _) (pf1 _ _ _) rfl rfl (by exact ty_L_api_Fire) rfl rfl rfl) ?_
      refine r_end ?_
      refine g_seq ?_
      refine g_run (by kernel_rfl) [(0, .d), (1, .w), (2, .d), (3, .w)] rfl ?_
      refine r_d rfl rfl rfl (s_load rfl rfl (by exact ty_P_snapshot_reader) rfl) ?_
      rcases bindXS hr with ⟨c_r_6, hr_6, rfl⟩ | ⟨r_6, hr_6, hr⟩
      ·
       refine r_die rfl rfl (s_callX _ rfl cl_Psnapshot_reader_number (.cons rfl (Wk.refl _) (.cons rfl (Wk.refl _) (.cons rfl (Wk.refl _) .nil))) (by exact (pf1 _ _ _)) (specX_inl (lg_Psnapshot_reader_number_s1 _ _ _ _ _ hr_6))) (hX _ ⟨_, rfl, rfl⟩)
      ·
       refine r_w rfl rfl rfl (s_call _ rfl cl_Psnapshot_reader_number (.cons rfl (Wk.refl _) (.cons rfl (Wk.refl _) (.cons rfl (Wk.refl _) .nil))) (by exact (pf1 _ _ _)) (specX_inr (lg_Psnapshot_reader_number_s1 _ _ _ _ _ hr_6))) ?_
       rintro _ _ ⟨_, ⟨rfl, rfl⟩, rfl⟩
       refine r_st ((.cell b_o0 (enc_S_snapshot_reader r_6.2)) :: _) rfl ?_
       refine r_d rfl rfl rfl (s_fieldRef rfl fl_api_Config_4 rfl) ?_
       refine r_w01 rfl rfl rfl (t_store _ rfl rfl rfl (Wk.refl _) (pf1 _ _ _) rfl rfl (by exact ty_int) rfl rfl rfl) ?_
       refine r_end ?_
       refine g_seq ?_
       refine g_run (by kernel_rfl) [(0, .d), (1, .w), (2, .d), (3, .w)] rfl ?_
       refine r_d rfl rfl rfl (s_load rfl rfl (by exact ty_P_snapshot_reader) rfl) ?_
       rcases bindXS hr with ⟨c_r_7, hr_7, rfl⟩ | ⟨r_7, hr_7, hr⟩
       ·
        refine r_die rfl rfl (s_callX _ rfl cl_Psnapshot_reader_number (.cons rfl (Wk.refl _) (.cons rfl (Wk.refl _) (.cons rfl (Wk.refl _) .nil))) (by exact (pf1 _ _ _)) (specX_inl (lg_Psnapshot_reader_number_s1 _ _ _ _ _ hr_7))) (hX _ ⟨_, rfl, rfl⟩)
       ·
        refine r_w rfl rfl rfl (s_call _ rfl cl_Psnapshot_reader_number (.cons rfl (Wk.refl _) (.cons rfl (Wk.refl _) (.cons rfl (Wk.refl _) .nil))) (by exact (pf1 _ _ _)) (specX_inr (lg_Psnapshot_reader_number_s1 _ _ _ _ _ hr_7))) ?_
        rintro _ _ ⟨_, ⟨rfl, rfl⟩, rfl⟩
        refine r_st ((.cell b_o0 (enc_S_snapshot_reader r_7.2)) :: _) rfl ?_
        refine r_d rfl rfl rfl (s_fieldRef rfl fl_api_Config_5 rfl) ?_
        refine r_w01 rfl rfl rfl (t_store _ rfl rfl rfl (Wk.refl _) (pf1 _ _ _) rfl rfl (by exact ty_int) rfl rfl rfl) ?_
        refine r_end ?_
        refine g_seq ?_
        refine g_run (by kernel_rfl) [(0, .d), (1, .w), (2, .d), (3, .w)] rfl ?_
        refine r_d rfl rfl rfl (s_load rfl rfl (by exact ty_P_snapshot_reader) rfl) ?_
        rcases bindXS hr with ⟨c_r_8, hr_8, rfl⟩ | ⟨r_8, hr_8, hr⟩
        ·
         refine r_die rfl rfl (s_callX _ rfl cl_Psnapshot_reader_flag (.cons rfl (Wk.refl _) .nil) (by exact (pf1 _ _ _)) (specX_inl (lg_Psnapshot_reader_flag_s1 _ _ _ hr_8))) (hX _ ⟨_, rfl, rfl⟩)
        ·
         refine r_w rfl rfl rfl (s_call _ rfl cl_Psnapshot_reader_flag (.cons rfl (Wk.refl _) .nil) (by exact (pf1 _ _ _)) (specX_inr (lg_Psnapshot_reader_flag_s1 _ _ _ hr_8))) ?_
         rintro _ _ ⟨_, ⟨rfl, rfl⟩, rfl⟩
         refine r_st ((.cell b_o0 (enc_S_snapshot_reader r_8.2)) :: _) rfl ?_
         refine r_d rfl rfl rfl (s_fieldRef rfl fl_api_Config_6 rfl) ?_
         refine r_w01 rfl rfl rfl (t_store _ rfl rfl rfl (Wk.refl _) (pf1 _ _ _) rfl rfl (by exact ty_bool) rfl rfl rfl) ?_
         refine r_end ?_
         refine g_seq ?_
         refine g_run (by kernel_rfl) [(0, .r), (1, .w)] rfl ?_
         refine r_r rfl rfl rfl (t_loadRef rfl rfl (.head _) rfl rfl (by exact ty_api_Config) rfl) ?_
         refine r_w01 rfl rfl rfl (t_store0 _ rfl rfl rfl (Wk.refl _) (pf0 _) (by exact ty_api_Config) rfl rfl rfl) ?_
         refine r_end ?_
         refine g_freeze 2 b2_0 rfl (pf0 _) ?_
         obtain rfl := Option.some.inj hr
         refine g_ret Tryz.func77 _ (.cons (resPtr rfl (by exact ty_api_Config) rfl (Wk.refl _)) .nil) ?_
         exact ⟨_, rfl, rfl, rfl⟩

end Go.Proofs.YtdoljfkjdfaakaaGreat


namespace Go.Proofs.YtdoljfkjdfaakaaGreat
set_option maxRecDepth 100000
open Go.RowKit

/-! ### writers -/
def catO (r s : Option (List Int)) : Option (List Int) := r.bind fun a => s.bind fun b => some (a ++ b)
theorem catO_nil (r : Option (List Int)) : catO r (some []) = r := by cases r <;> simp [catO]
theorem catO_some {r s : Option (List Int)} {e : List Int} (h : catO r s = some e) : ∃ a b, r = some a ∧ s = some b ∧ e = a ++ b := by
  cases r <;> cases s <;> simp [catO] at h
  exact ⟨_, _, rfl, rfl, h.symm⟩
def OkW (r : Option (List Int)) (b b' : List Int) (bad' : Bool) : Prop := match r with
  | none => bad' = true
  | some e => bad' = false ∧ b' = b ++ e
/-- It appends r, or says that the value is not sound; at most N bytes. -/
def Wr {W : Type} (mk : List Int → Bool → W) (f : W → Option W) (N : Nat) (r : Option (List Int)) : Prop :=
  ∀ b bad, b.length + N ≤ 1000000000 → ∃ b' bad', f (mk b bad) = some (mk b' bad') ∧ b'.length ≤ b.length + N ∧ (bad = true → bad' = true) ∧ (bad = false → OkW r b b' bad')
section
variable {W α β : Type} {mk : List Int → Bool → W} {f g : W → Option W} {N M : Nat} {r s : Option (List Int)}
theorem Wr.pure : Wr mk some 0 (some []) := fun b bad _ => ⟨b, bad, rfl, by omega, id, fun h => ⟨h, by simp⟩⟩
theorem Wr.bind (hf : Wr mk f N r) (hg : Wr mk g M s) : Wr mk (fun c => (f c).bind g) (N + M) (catO r s) := fun b bad hb => by
  obtain ⟨b1, bad1, e1, l1, m1, o1⟩ := hf b bad (by omega)
  obtain ⟨b2, bad2, e2, l2, m2, o2⟩ := hg b1 bad1 (by omega)
  refine ⟨b2, bad2, by simp only [e1]; exact e2, by omega, fun h => m2 (m1 h), fun h => ?_⟩
  have o1 := o1 h
  cases r with
  | none => exact m2 o1
  | some x =>
    obtain ⟨rfl, rfl⟩ := o1
    have o2 := o2 rfl
    cases s with
    | none => exact o2
    | some y => exact ⟨o2.1, by rw [o2.2, List.append_assoc]⟩
theorem Wr.eq (h : Wr mk f N r) (he : r = s) : Wr mk f N s := he ▸ h
theorem Wr.last (h : Wr mk f N r) : Wr mk (fun c => (f c).bind fun x => some x) N r := (Wr.bind h Wr.pure).eq (catO_nil r)
end
end Go.Proofs.YtdoljfkjdfaakaaGreat


namespace Go.Proofs.YtdoljfkjdfaakaaGreat
set_option maxRecDepth 100000
open Go.RowKit

theorem Wr.congr {W : Type} {mk : List Int → Bool → W} {f g : W → Option W} {N : Nat} {r : Option (List Int)} (h : Wr mk f N r) (he : ∀ c, f c = g c) : Wr mk g N r := by
  have : f = g := funext he
  subst this
  exact h
/-! ### The program -/
/-- What is asked of a rule: few nodes, a name that is not too long. -/
structure RuleS (x : S_api_Rule) : Prop where
  n : x.f0_Name.size ≤ 2000
  k : ∀ y ∈ x.f1_Keep, wtL y.ts ≤ 1000000000
  r : ∀ y ∈ x.f2_Remove, wtL y.ts ≤ 1000000000
  g : ∀ y ∈ x.f3_Guard, wtL y.ts ≤ 1000000000
  b : ∀ y ∈ x.f4_Body, wtL y.ts ≤ 1000000000
end Go.Proofs.YtdoljfkjdfaakaaGreat


namespace Go.Proofs.YtdoljfkjdfaakaaGreat
set_option maxRecDepth 100000
open Go.RowKit

/-! ### readers -/
abbrev RR := S_snapshot_reader
/-- It takes x out of the bytes e, and says of a beginning of them that it is too short. -/
def Rdr {α : Type} (f : RR → Option (Int ⊕ (α × RR))) (e : List Int) (x : α) : Prop :=
  (∀ a z : List Int, (a ++ e ++ z).length ≤ 1000000000 → f ⟨a ++ e ++ z, (a.length : Int)⟩ = some (.inr (x, ⟨a ++ e ++ z, ((a ++ e).length : Int)⟩))) ∧
  (∀ a t z : List Int, (a ++ t).length ≤ 1000000000 → z ≠ [] → e = t ++ z → f ⟨a ++ t, (a.length : Int)⟩ = some (.inl 4))
def RdO {α : Type} (f : RR → Option (Int ⊕ (α × RR))) (r : Option (List Int)) (x : α) : Prop := ∀ e, r = some e → Rdr f e x
section
variable {α β : Type} {f : RR → Option (Int ⊕ (α × RR))} {G : α × RR → Option (Int ⊕ (β × RR))} {x : α} {y : β} {e e' : List Int} {r s : Option (List Int)}
theorem Rdr.pure : Rdr (fun c => some (.inr (x, c))) [] x := by
  refine ⟨fun a z _ => by simp, fun a t z _ hz he => ?_⟩
  have := congrArg List.length he
  simp only [List.length_nil, List.length_append] at this
  exact absurd (List.eq_nil_of_length_eq_zero (by omega)) hz
theorem Rdr.bind (hf : Rdr f e x) (hg : Rdr (fun c => G (x, c)) e' y) : Rdr (fun c => bindX (f c) G) (e ++ e') y := by
  constructor
  · intro a z hl
    have h1 := hf.1 a (e' ++ z) (by simpa only [List.append_assoc] using hl)
    have h2 := hg.1 (a ++ e) z (by simpa only [List.append_assoc] using hl)
    simp only [List.append_assoc] at h1 h2 ⊢
    rw [h1]
    exact h2
  · intro a t z hl hz ht
    rcases List.append_eq_append_iff.1 ht with ⟨a', rfl, h2⟩ | ⟨c', rfl, h2⟩
    · have h1 := hf.1 a a' (by simpa only [List.append_assoc] using hl)
      have h3 := hg.2 (a ++ e) a' z (by simpa only [List.append_assoc] using hl) hz h2
      simp only [List.append_assoc] at h1 h3 ⊢
      rw [h1]
      exact h3
    · by_cases hc : c' = []
      · subst hc
        have h1 := hf.1 a [] (by simpa using hl)
        have h3 := hg.2 (a ++ t) [] e' (by simpa using hl) (by rw [List.nil_append] at h2; rw [← h2]; exact hz) rfl
        simp only [List.append_nil] at h1 h3
        show bindX (f _) G = _
        rw [h1]
        exact h3
      · show bindX (f _) G = _
        rw [hf.2 a t c' hl hc rfl]
        rfl
theorem Rdr.congr {g : RR → Option (Int ⊕ (α × RR))} (h : Rdr f e x) (hc : ∀ c, f c = g c) : Rdr g e x := by
  have : f = g := funext hc
  subst this
  exact h
theorem RdO.congr {g : RR → Option (Int ⊕ (α × RR))} (h : RdO f r x) (hc : ∀ c, f c = g c) : RdO g r x := fun e he => (h e he).congr hc
theorem RdO.bind (hf : RdO f r x) (hg : RdO (fun c => G (x, c)) s y) : RdO (fun c => bindX (f c) G) (catO r s) y := fun e he => by
  obtain ⟨a, b, h1, h2, rfl⟩ := catO_some he
  exact (hf a h1).bind (hg b h2)
theorem RdO.last (hf : RdO f r x) (hg : ∀ c, G (x, c) = some (.inr (y, c))) : RdO (fun c => bindX (f c) G) r y := fun e he => by
  have := (hf e he).bind (G := G) ((Rdr.pure (x := y)).congr fun c => (hg c).symm)
  rwa [List.append_nil] at this
theorem RdO.eq (h : RdO f r x) (he : r = s) : RdO f s x := he ▸ h
end
end Go.Proofs.YtdoljfkjdfaakaaGreat


namespace Go.Proofs.YtdoljfkjdfaakaaGreat
set_option maxRecDepth 100000
open Go.RowKit
section
variable {m : Md} {P : Program} {f : FuncId} {fn : Func} {K : Ctx} {R : D → St → Prop} {k : List Item} {env : Env} {σ : St}
theorem leavesAs_of {P : Program} {fr : Frame} {w : World} {e : Ending} (h : fr.leaving P w e) : LeavesAs .normal P fr w e := by
  cases e with
  | returned v => exact h
  | panicked c => exact h
  | outgrown => trivial
/-- What a panic leaves, when the deferred calls have run. -/
def OutD (m : Md) (P : Program) (fn : Func) (K : Ctx) (R : D → St → Prop) (env : Env) (d : D) (τ : St) : Prop := ∀ (p : Addr → Prop) (a : Act) (w : World) (v : Value), Inv K p τ w → RelEnv p w env a → Rep p w d v → Leaves P fn a.tmps (Left K R) m.marks (.panicking [{ v, recovered := false }]) w
theorem g_regionD {id : Nat} {ops : Array Oper} {dr : Bool} {Q : Env → St → Prop} {X : Env → D → St → Prop} (hrd : m.rd = none) (hkd : m.kd = .normal) (h : ∀ (p : Addr → Prop) (a : Act) (w : World), Inv K p σ w → RelEnv p w env a → fn.ntmps ≤ a.tmps.size → a.defers = m.marks → (Code.region id ops dr).wpIn (fw m.rd) 0 P (EndsR P K fn.ntmps m X Q) a w)
    (hX : ∀ e d τ, X e d τ → OutD m P fn K R e d τ) (hq : ∀ env' σ', Q env' σ' → GoesG m P f fn K R k env' σ') : GoesG m P f fn K R (.code (.region id ops dr) :: k) env σ := fun p a w hi hr hn hd b cs hb hk hro hf => by
  obtain ⟨e, a', w', hE, harr⟩ := h p a w hi hr hn hd b k cs (hro.trans (fw_round _).symm) (fw_fn _ _) (fw_room _ _)
  rcases hE with ⟨rfl, env', σ', p', q, i1, i2, i3, i4⟩ | ⟨v, d, τ, p', env', rfl, hx, hv, hi', hr', hd'⟩
  · exact .of_steps (fw_steps harr) (hq env' σ' q p' a' w' i1 i2 i3 i4 b cs hb hk hro hf)
  · obtain ⟨todo, hs⟩ := harr
    obtain ⟨e, w'', fr', h1, h2, h3, h4⟩ := leaves_steps (P := P) (fn := fn) m.marks (.panicking [{ v, recovered := false }]) w' { b.atR a' todo with mode := .panicking [{ v, recovered := false }] } cs rfl hd' rfl (by rw [← hb] at hf; exact hf) (hk.trans hkd) (hX env' d τ hx p' a' w' v hi' hr' hv)
    refine .of_steps (fw_steps hs) ?_
    rw [hrd, hkd]
    exact ⟨e, w'', fr', h1, h2, h3.trans hb, leavesAs_of h4⟩
theorem g_runD (hrd : m.rd = none) (hkd : m.kd = .normal) {id : Nat} {l : List Oper} (hok : okOps l.toArray fn.ntmps = true) (ord : List (Nat × Cls)) (ho : ord.map (·.1) = List.range l.length)
    (h : Run P l.toArray (OutD m P fn K R) (GoesG m P f fn K R k) ord env σ) : GoesG m P f fn K R (.code (.region id l.toArray false) :: k) env σ :=
  g_regionD hrd hkd (Q := GoesG m P f fn K R k) (X := OutD m P fn K R) (fun p a w hi hr hn hd => by
    refine wpIn_region ?_
    have := run_seq (K := K) (m := m) (X := OutD m P fn K R) (fun _ _ _ _ => hrd) hok ord env σ a w h ⟨p, hi, hr, hn, hd⟩
    rw [ho] at this
    simpa using this) (fun _ _ _ h => h) (fun _ _ h => h)
/-- A return, when the deferred calls have run. -/
theorem g_retD (hrd : m.rd = none) (hkd : m.kd = .normal) (h : ∀ (p : Addr → Prop) (a : Act) (w : World), Inv K p σ w → RelEnv p w env a → Leaves P fn a.tmps (Left K R) m.marks .returning w) : GoesG m P f fn K R (.code .ret :: k) env σ := fun p a w hi hr hn hd b cs hb hk hro hf => by
  obtain ⟨e, w'', fr', h1, h2, h3, h4⟩ := leaves_steps (P := P) (fn := fn) m.marks .returning w { b.atR a (.code .ret :: k) with mode := .returning } cs rfl hd rfl (by rw [← hb] at hf; exact hf) (hk.trans hkd) (h p a w hi hr)
  refine .of_steps (.one (stepR_ret (hro.trans hrd))) ?_
  rw [hrd, hkd]
  exact ⟨e, w'', fr', h1, h2, h3.trans hb, leavesAs_of h4⟩
/-- A closure over two variables is made, and its call deferred. -/
theorem g_defer2 {id t s1 s2 : Nat} {g : FuncId} {b1 b2 : Nat} {o1 o2 : Oper} (hrd : m.rd = none) (ho1 : o1.op = .makeFunc (.func g) #[] #[.tmp s1, .tmp s2]) (hd1 : o1.dst = some t) (hg1 : o1.guard = none) (ho2 : o2.op = .defer { callee := .value (.tmp t), args := #[], argTypes := #[] }) (hd2 : o2.dst = none) (hg2 : o2.guard = none)
    (h1 : lk env s1 = some (.ref b1 0 [])) (h2 : lk env s2 = some (.ref b2 0 [])) (ht : t < fn.ntmps)
    (h : GoesG { m with ds := { target := .fn (.func g) #[.pointer (some ⟨b1, 0, none⟩), .pointer (some ⟨b2, 0, none⟩)], args := #[] } :: m.ds } P f fn K R k ((t, .clo (.func g) [] [.ref b1 0 [], .ref b2 0 []]) :: env) σ) :
    GoesG m P f fn K R (.code (.region id #[o1, o2] false) :: k) env σ := fun p a w hi hr hn hd b cs hb hk hro hf => by
  have v1 := hr s1 _ h1
  have v2 := hr s2 _ h2
  simp only [Rep] at v1 v2
  have hs : t < a.tmps.size := Nat.lt_of_lt_of_le ht hn
  have arr : (Code.region id #[o1, o2] false).wpIn (fw m.rd) 0 P (fun e a' w' => e = .normal ∧ w' = w ∧ a' = { tmps := a.tmps.setIfInBounds t (.func (.func g) #[] #[.pointer (some ⟨b1, 0, none⟩), .pointer (some ⟨b2, 0, none⟩)]), defers := { target := .fn (.func g) #[.pointer (some ⟨b1, 0, none⟩), .pointer (some ⟨b2, 0, none⟩)], args := #[] } :: a.defers }) a w := by
    rw [hrd]
    refine wpIn_region ?_
    simp only [List.size_toArray, List.length_cons, List.length_nil, List.range_succ, List.range_zero, List.nil_append, List.cons_append]
    simp only [wpOpsIn, List.getElem?_toArray, List.getElem?_cons_zero, List.getElem?_cons_succ, Region.wanted, hg1, hg2, if_true]
    refine wpIn_none ?_
    unfold Oper.wp
    have r1 : (execOp a.eval o1).run P w = .ok (.value (.func (.func g) #[] #[.pointer (some ⟨b1, 0, none⟩), .pointer (some ⟨b2, 0, none⟩)])) w := by
      unfold execOp
      rw [ho1]
      simp [Instr.makeFunc, Act.eval, v1, v2]
    rw [r1, Oper.upon_value, hd1]
    refine wpIn_none ?_
    unfold Oper.wp
    have r2 : (execOp (a.put (some t) (.func (.func g) #[] #[.pointer (some ⟨b1, 0, none⟩), .pointer (some ⟨b2, 0, none⟩)])).eval o2).run P w = .ok (.defer { target := .fn (.func g) #[.pointer (some ⟨b1, 0, none⟩), .pointer (some ⟨b2, 0, none⟩)], args := #[] }) w := by
      unfold execOp
      rw [ho2]
      simp [resolve, Deferred.ofValue, Act.eval, Act.put, hs]
    rw [r2, Oper.upon_defer, hd2]
    exact ⟨trivial, rfl, rfl⟩
  obtain ⟨e, a', w', ⟨rfl, rfl, rfl⟩, harr⟩ := arr b k cs (hro.trans (fw_round _).symm) (fw_fn _ _) (fw_room _ _)
  refine .of_steps (fw_steps harr) (h p _ w' hi (fun s d hsd => ?_) (by simpa using hn) (by simp [Md.marks, hd]) b cs hb hk hro hf)
  rw [look_cons] at hsd
  by_cases hst : t = s
  · subst hst
    rw [if_pos rfl] at hsd
    injection hsd with hsd
    subst hsd
    simp only [Rep, Repl]
    exact ⟨[], [.pointer (some ⟨b1, 0, none⟩), .pointer (some ⟨b2, 0, none⟩)], by simp [hs], rfl, _, _, rfl, rfl, _, _, rfl, rfl, rfl⟩
  · rw [if_neg hst] at hsd
    have := hr s d hsd
    simpa [Array.getElem?_setIfInBounds_ne hst] using this
end
section
variable {P : Program}
/-- A deferred closure that recovers first: its walk goes on with what was thrown, or with nil. -/
theorem callsD_any (u u1 : FrameMode) {v : Value} (hrec : ∀ (c₀ : Frame) (cs : List Frame), c₀.mode = u → recoverD (c₀ :: cs) = some (v, { c₀ with mode := u1 } :: cs) ∨ (recoverD (c₀ :: cs) = none ∧ v = .nilIface ∧ ({ c₀ with mode := u1 } : Frame) = c₀)) {g : FuncId} {fn : Func} {id : Nat} {o1 o2 : Oper} {c1 : Code} {b1 b2 tr td : Nat} {d : D} {K : Ctx} {R : D → St → Prop} {σ : St} {p : Addr → Prop} {w : World}
    (hf : P.funcs[g]? = some fn) (hb : fn.body = some (.seq (.region id #[o1, o2] false) c1)) (h1 : o1.op = .call { callee := .builtin .recover, args := #[], argTypes := #[] }) (hd1 : o1.dst = some tr) (hg1 : o1.guard = none) (h2 : o2.op = .assign (.tmp tr)) (hd2 : o2.dst = some td) (hg2 : o2.guard = none)
    (ht : tr < fn.ntmps) (ht2 : td < fn.ntmps) (hne : 2 ≤ tr) (hne2 : 2 ≤ td) (hi : Inv K p σ w) (hv : Rep p w d v)
    (h : ∀ K', GoesG ⟨none, [], [], .deferred⟩ P g fn K' R [.code c1] [(td, d), (tr, d), (0, .ref b1 0 []), (1, .ref b2 0 [])] σ) :
    CallsD P g #[.pointer (some ⟨b1, 0, none⟩), .pointer (some ⟨b2, 0, none⟩)] u w fun e u' w' => u' = u1 ∧ Left { K with X := fun _ _ => False } R e w' := by
  intro c₀ cs hu
  let b : Frame := { (default : Frame) with fn := g, kind := .deferred, roundOf := none }
  let a0 : Act := { tmps := #[.pointer (some ⟨b1, 0, none⟩), .pointer (some ⟨b2, 0, none⟩)] ++ Array.replicate (fn.ntmps - 2) undef, defers := [] }
  let a1 : Act := { tmps := (a0.tmps.setIfInBounds tr v).setIfInBounds td v, defers := [] }
  have hsz : a0.tmps.size = fn.ntmps := by
    simp only [a0, Array.size_append, Array.size_replicate]
    show 2 + (fn.ntmps - 2) = _
    omega
  have henter : Frame.enter P g #[.pointer (some ⟨b1, 0, none⟩), .pointer (some ⟨b2, 0, none⟩)] .deferred = b.at a0 [.code (.seq (.region id #[o1, o2] false) c1)] := by
    simp [Frame.enter, Frame.at, hf, hb, b, a0]
  have hreg : (Code.region id #[o1, o2] false).wpS P (fun e a' cs' w' => e = .normal ∧ a' = a1 ∧ cs' = { c₀ with mode := u1 } :: cs ∧ w' = w) a0 (c₀ :: cs) w := by
    apply wpS_region
    have r1 : (execOp a0.eval o1).run P w = .ok .recover w := by
      unfold execOp
      rw [h1]
      simp [resolve, invoke, go_sem]
    have r2 : (execOp (a0.put (some tr) v).eval o2).run P w = .ok (.value v) w := by
      unfold execOp
      rw [h2]
      simp [Act.eval, Act.put, hsz, ht]
    simp only [List.size_toArray, List.length_cons, List.length_nil, List.range_succ, List.range_zero, List.nil_append, List.cons_append]
    rcases hrec c₀ cs hu with hr | ⟨hr, rfl, he⟩
    · simp only [wpOpsS, List.getElem?_toArray, List.getElem?_cons_zero, List.getElem?_cons_succ, Region.wanted, hg1, hg2, if_true, r1, hr, hd1, r2, hd2, Oper.upon_value]
      exact ⟨trivial, rfl, trivial, trivial⟩
    · rw [he]
      simp only [wpOpsS, List.getElem?_toArray, List.getElem?_cons_zero, List.getElem?_cons_succ, Region.wanted, hg1, hg2, if_true, r1, hr, hd1, r2, hd2, Oper.upon_value]
      exact ⟨trivial, rfl, trivial, trivial⟩
  obtain ⟨e, a', cs', w', ⟨rfl, rfl, rfl, rfl⟩, harr⟩ := hreg b [.code c1] rfl rfl
  have hrel : RelEnv p w' [(td, d), (tr, d), (0, .ref b1 0 []), (1, .ref b2 0 [])] a1 := by
    have hset : ∀ (l : Array Value) (i : Nat) (x : Value) (j : Nat), (l.setIfInBounds i x).getD j undef = if i = j ∧ i < l.size then x else l.getD j undef := fun l i x j => by
      simp only [Array.getD_eq_getD_getElem?, Array.getElem?_setIfInBounds]
      by_cases hij : i = j
      · subst hij
        by_cases hl : i < l.size
        · simp [hl]
        · simp [hl]
      · simp [hij]
    intro t d' hd'
    simp only [look_cons] at hd'
    show Rep p w' d' (((a0.tmps.setIfInBounds tr v).setIfInBounds td v).getD t undef)
    rw [hset, hset, Array.size_setIfInBounds, hsz]
    by_cases e1 : td = t
    · rw [if_pos e1] at hd'
      injection hd' with hd'
      subst hd'
      rw [if_pos ⟨e1, ht2⟩]
      exact hv
    · rw [if_neg e1] at hd'
      rw [if_neg fun h => e1 h.1]
      by_cases e2 : tr = t
      · rw [if_pos e2] at hd'
        injection hd' with hd'
        subst hd'
        rw [if_pos ⟨e2, ht⟩]
        exact hv
      · rw [if_neg e2] at hd'
        rw [if_neg fun h => e2 h.1]
        have h01 : t = 0 ∨ t = 1 := by
          by_cases e3 : 0 = t
          · exact .inl e3.symm
          · rw [if_neg e3] at hd'
            by_cases e4 : 1 = t
            · exact .inr e4.symm
            · rw [if_neg e4] at hd'
              cases hd'
        rcases h01 with rfl | rfl
        · rw [if_pos rfl] at hd'
          injection hd' with hd'
          subst hd'
          simp only [Rep]
          show (#[Value.pointer (some ⟨b1, 0, none⟩), Value.pointer (some ⟨b2, 0, none⟩)] ++ Array.replicate (fn.ntmps - 2) undef).getD _ undef = _
          rw [Array.getD_eq_getD_getElem?, Array.getElem?_append_left (by simp)]
          rfl
        · rw [if_neg (by decide), if_pos rfl] at hd'
          injection hd' with hd'
          subst hd'
          simp only [Rep]
          show (#[Value.pointer (some ⟨b1, 0, none⟩), Value.pointer (some ⟨b2, 0, none⟩)] ++ Array.replicate (fn.ntmps - 2) undef).getD _ undef = _
          rw [Array.getD_eq_getD_getElem?, Array.getElem?_append_left (by simp)]
          rfl
  obtain ⟨e, w2, fr, q1, q2, q3, q4⟩ := h { K with X := fun _ _ => False } p a1 w' (hi.of (by rfl) (by rfl) (by rfl)) hrel (by simp [a1, hsz]) (by simp [a1, Md.marks]) b ({ c₀ with mode := u1 } :: cs) rfl rfl rfl hf
  rw [Frame.atR_of_none rfl] at q2
  refine ⟨e, _, w2, fr, ⟨rfl, q1⟩, ?_, ?_⟩
  · rw [henter]
    exact Comes.of_steps (.head step_seq harr) q2
  · rcases q1 with ⟨v', d', σ', q, rfl, _⟩ | ⟨_, _, _, _, _, hx, _⟩
    · obtain ⟨q5, q6, q7, q8⟩ := q4
      exact ⟨q7, q5, q6, q8⟩
    · exact hx.elim
variable {o : Oper} {ρ : Operand → Option D} {d : D}
theorem callsD_rec {v : Value} {g : FuncId} {fn : Func} {id : Nat} {o1 o2 : Oper} {c1 : Code} {b1 b2 tr td : Nat} {d : D} {K : Ctx} {R : D → St → Prop} {σ : St} {p : Addr → Prop} {w : World}
    (hf : P.funcs[g]? = some fn) (hb : fn.body = some (.seq (.region id #[o1, o2] false) c1)) (h1 : o1.op = .call { callee := .builtin .recover, args := #[], argTypes := #[] }) (hd1 : o1.dst = some tr) (hg1 : o1.guard = none) (h2 : o2.op = .assign (.tmp tr)) (hd2 : o2.dst = some td) (hg2 : o2.guard = none)
    (ht : tr < fn.ntmps) (ht2 : td < fn.ntmps) (hne : 2 ≤ tr) (hne2 : 2 ≤ td) (hi : Inv K p σ w) (hv : Rep p w d v)
    (h : ∀ K', GoesG ⟨none, [], [], .deferred⟩ P g fn K' R [.code c1] [(td, d), (tr, d), (0, .ref b1 0 []), (1, .ref b2 0 [])] σ) :
    CallsD P g #[.pointer (some ⟨b1, 0, none⟩), .pointer (some ⟨b2, 0, none⟩)] (.panicking [{ v, recovered := false }]) w fun e u' w' => u' = .panicking [{ v, recovered := true }] ∧ Left { K with X := fun _ _ => False } R e w' :=
  callsD_any _ _ (fun c₀ cs hu => .inl (by simp [recoverD, hu])) hf hb h1 hd1 hg1 h2 hd2 hg2 ht ht2 hne hne2 hi hv h
theorem callsD_idle {g : FuncId} {fn : Func} {id : Nat} {o1 o2 : Oper} {c1 : Code} {b1 b2 tr td : Nat} {K : Ctx} {R : D → St → Prop} {σ : St} {p : Addr → Prop} {w : World}
    (hf : P.funcs[g]? = some fn) (hb : fn.body = some (.seq (.region id #[o1, o2] false) c1)) (h1 : o1.op = .call { callee := .builtin .recover, args := #[], argTypes := #[] }) (hd1 : o1.dst = some tr) (hg1 : o1.guard = none) (h2 : o2.op = .assign (.tmp tr)) (hd2 : o2.dst = some td) (hg2 : o2.guard = none)
    (ht : tr < fn.ntmps) (ht2 : td < fn.ntmps) (hne : 2 ≤ tr) (hne2 : 2 ≤ td) (hi : Inv K p σ w)
    (h : ∀ K', GoesG ⟨none, [], [], .deferred⟩ P g fn K' R [.code c1] [(td, .nili), (tr, .nili), (0, .ref b1 0 []), (1, .ref b2 0 [])] σ) :
    CallsD P g #[.pointer (some ⟨b1, 0, none⟩), .pointer (some ⟨b2, 0, none⟩)] .returning w fun e u' w' => u' = .returning ∧ Left { K with X := fun _ _ => False } R e w' :=
  callsD_any .returning .returning (v := .nilIface) (fun c₀ cs hu => .inr ⟨by simp [recoverD, hu], rfl, by cases c₀; simp_all⟩) hf hb h1 hd1 hg1 h2 hd2 hg2 ht ht2 hne hne2 hi (by simp only [Rep]) h
theorem s_neqNilN {x : Operand} {ty t' : TypeId} (ho : o.op = .binOp .neq ty x (.const .nilIface) t') (hx : ρ x = some .nili) (hr : ∀ (w : World), (Op.equal ty .nilIface .nilIface).run P w = .ok true w) : StepD P o ρ (.bool false) := stepD_of fun p a w h => by
  have h1 := h x (by rw [ho]; simp [Op.operands]) _ hx
  simp only [Rep] at h1
  refine ⟨.bool false, ?_, by simp only [Rep]⟩
  unfold execOp
  rw [ho]
  have e1 : eqGuard .neq ty x (.const .nilIface) .nilIface .nilIface = pure () := by
    unfold eqGuard
    simp
  have e2 : binOp .neq ty .nilIface .nilIface = (do pure (.bool (!(← Op.equal ty .nilIface .nilIface)))) := rfl
  have e3 : a.eval (.const .nilIface) = .nilIface := rfl
  simp [h1, e3, e1, e2, hr]
theorem s_neqNilI {x y : Operand} {t ty : TypeId} {t' : TypeId} (ho : o.op = .binOp .neq ty x y t') (hx : ρ x = some (.ifc t d)) (hy : ρ y = some .nili) (hr : ∀ (v : Value) (w : World), (Op.equal ty (.iface t v) .nilIface).run P w = .ok false w) : StepD P o ρ (.bool true) := stepD_of fun p a w h => by
  have h1 := h x (by rw [ho]; simp [Op.operands]) _ hx
  have h2 := h y (by rw [ho]; simp [Op.operands]) _ hy
  simp only [Rep] at h1 h2
  obtain ⟨v, h1, _⟩ := h1
  refine ⟨.bool true, ?_, by simp only [Rep]⟩
  unfold execOp
  rw [ho]
  have e1 : eqGuard .neq ty x y (.iface t v) .nilIface = pure () := rfl
  have e2 : binOp .neq ty (.iface t v) .nilIface = (do pure (.bool (!(← Op.equal ty (.iface t v) .nilIface)))) := rfl
  simp [h1, h2, e1, e2, hr]
theorem s_assertT {x : Operand} {tx t : TypeId} (ho : o.op = .typeAssert x tx t true) (hr : ∀ (v : Value) (w : World), (Instr.typeAssert (.iface t v) tx t true).run P w = .ok (.tuple #[v, .bool true]) w) (hx : ρ x = some (.ifc t d)) : StepD P o ρ (.tup [d, .bool true]) := stepD_of fun p a w h => by
  have h1 := h x (by rw [ho]; simp [Op.operands]) _ hx
  simp only [Rep] at h1
  obtain ⟨v, h1, h2⟩ := h1
  refine ⟨.tuple #[v, .bool true], ?_, ?_⟩
  · unfold execOp
    rw [ho]
    simp [h1, hr]
  · simp only [Rep, Repl]
    exact ⟨[v, .bool true], rfl, _, _, rfl, h2, _, _, rfl, rfl, rfl⟩
end
section
variable {m : Md} {P : Program} {f : FuncId} {fn : Func} {K : Ctx} {R : D → St → Prop} {k : List Item} {env : Env} {σ : St}
theorem g_endD (_ : P.funcs[f]? = some fn) (ds : List D) (hds : ResDs P env σ fn.results.toList ds) (hR : R (packD ds) σ) : GoesG ⟨none, [], [], .deferred⟩ P f fn K R [] env σ := fun p a w hi hr hn hd b cs hb hk hro hf => by
  obtain ⟨e, h1, h2, h3⟩ := left_of (R := R) hi hr hd hf hds hR b hb hk []
  refine ⟨e, w, { b.atR a [] with mode := .returning }, h1, ?_, hb, h2⟩
  cases e with
  | returned v => exact Steps.one (stepR_end hro)
  | panicked c => exact Steps.one (stepR_end hro)
  | outgrown => exact absurd rfl h3
/-- A panic is recovered by the deferred closure, which writes the results. -/
theorem outD_of {g : FuncId} {b1 b2 s1 s2 : Nat} {d : D} {σ' : St} {ds : List D} (hm : m.marks = [{ target := .fn (.func g) #[.pointer (some ⟨b1, 0, none⟩), .pointer (some ⟨b2, 0, none⟩)], args := #[] }]) (hg : callee P g)
    (hrec : ∀ (p : Addr → Prop) (w : World) (v : Value), Inv K p σ w → Rep p w d v → CallsD P g #[.pointer (some ⟨b1, 0, none⟩), .pointer (some ⟨b2, 0, none⟩)] (.panicking [{ v, recovered := false }]) w fun e u' w' => u' = .panicking [{ v, recovered := true }] ∧ Left { K with X := fun _ _ => False } (fun d σ'' => d = .tup [] ∧ σ'' = σ') e w')
    (hres : ResDs P [(s1, .ref b1 0 []), (s2, .ref b2 0 [])] σ' fn.results.toList ds) (hR : R (packD ds) σ') (h1 : lk env s1 = some (.ref b1 0 [])) (h2 : lk env s2 = some (.ref b2 0 [])) : OutD m P fn K R env d σ := fun p a w v hi hr hv => by
  rw [hm]
  refine leaves_cons (f := g) (args := #[.pointer (some ⟨b1, 0, none⟩), .pointer (some ⟨b2, 0, none⟩)]) (by simp) ?_ ?_
  · simp only [invoke]
    rw [run_callFunc hg]
    congr 2
  · refine (hrec p w v hi hv).mono ?_
    rintro e u' w' ⟨rfl, hl⟩
    rcases hl with ⟨v', d', σ'', q, rfl, ⟨rfl, rfl⟩, hv', hi'⟩ | ⟨_, _, _, _, rfl, hx, _⟩
    · have hrel : RelEnv q w' [(s1, .ref b1 0 []), (s2, .ref b2 0 [])] a := fun t d ht => by
        rw [look_cons] at ht
        split at ht
        · rename_i e
          subst e
          injection ht with ht
          subst ht
          have := hr _ _ h1
          simp only [Rep] at this ⊢
          exact this
        · rw [look_cons] at ht
          split at ht
          · rename_i e
            subst e
            injection ht with ht
            subst ht
            have := hr _ _ h2
            simp only [Rep] at this ⊢
            exact this
          · cases ht
      have hi'' : Inv K q σ'' w' := hi'.of (by rfl) (by rfl) (by rfl)
      obtain ⟨v2, h3, h4⟩ := results_run hi'' hrel hres
      exact ⟨v2, h3, .inl ⟨v2, _, _, q, rfl, hR, h4, hi''⟩⟩
    · exact hx.elim
/-- A return, when the deferred closure has nothing to recover. -/
theorem leavesD_of {g : FuncId} {b1 b2 s1 s2 : Nat} {ds : List D} (hm : m.marks = [{ target := .fn (.func g) #[.pointer (some ⟨b1, 0, none⟩), .pointer (some ⟨b2, 0, none⟩)], args := #[] }]) (hg : callee P g)
    (hidle : ∀ (p : Addr → Prop) (w : World), Inv K p σ w → CallsD P g #[.pointer (some ⟨b1, 0, none⟩), .pointer (some ⟨b2, 0, none⟩)] .returning w fun e u' w' => u' = .returning ∧ Left { K with X := fun _ _ => False } (fun d σ' => d = .tup [] ∧ σ' = σ) e w')
    (h1 : lk env s1 = some (.ref b1 0 [])) (h2 : lk env s2 = some (.ref b2 0 []))
    (hres : ResDs P [(s1, .ref b1 0 []), (s2, .ref b2 0 [])] σ fn.results.toList ds) (hR : R (packD ds) σ) (p : Addr → Prop) (a : Act) (w : World) (hi : Inv K p σ w) (hr : RelEnv p w env a) : Leaves P fn a.tmps (Left K R) m.marks .returning w := by
  rw [hm]
  refine leaves_cons (f := g) (args := #[.pointer (some ⟨b1, 0, none⟩), .pointer (some ⟨b2, 0, none⟩)]) (by simp) ?_ ?_
  · simp only [invoke]
    rw [run_callFunc hg]
    congr 2
  · refine (hidle p w hi).mono ?_
    rintro e u' w' ⟨rfl, hl⟩
    rcases hl with ⟨v', d', σ'', q, rfl, ⟨rfl, rfl⟩, hv', hi'⟩ | ⟨_, _, _, _, rfl, hx, _⟩
    · have hrel : RelEnv q w' [(s1, .ref b1 0 []), (s2, .ref b2 0 [])] a := fun t d ht => by
        rw [look_cons] at ht
        split at ht
        · rename_i e
          subst e
          injection ht with ht
          subst ht
          have := hr _ _ h1
          simp only [Rep] at this ⊢
          exact this
        · rw [look_cons] at ht
          split at ht
          · rename_i e
            subst e
            injection ht with ht
            subst ht
            have := hr _ _ h2
            simp only [Rep] at this ⊢
            exact this
          · cases ht
      have hi'' : Inv K q _ w' := hi'.of (by rfl) (by rfl) (by rfl)
      obtain ⟨v2, h3, h4⟩ := results_run hi'' hrel hres
      exact ⟨v2, h3, .inl ⟨v2, _, _, q, rfl, hR, h4, hi''⟩⟩
    · exact hx.elim
end
end Go.Proofs.YtdoljfkjdfaakaaGreat


namespace Go.Proofs.YtdoljfkjdfaakaaGreat
set_option maxRecDepth 100000
open Go.RowKit

theorem ta_failure (v : Value) (w : World) : (Instr.typeAssert (.iface 191 v) 20 191 true).run Tryz.prog w = .ok (.tuple #[v, .bool true]) w := by
  kernel_rfl
/-- What a panic makes of the results. -/
def wholeR {α : Type} (z : α) (r : Int ⊕ (α × Int)) : α × Int := match r with
  | .inl c => (z, c)
  | .inr x => x

/-! ### Program -/
def z_Program : S_api_Program := ⟨[], []⟩
theorem neqI_Program (v : Value) (w : World) : (Op.equal 20 (.iface 191 v) .nilIface).run Tryz.prog w = .ok false w := rfl
set_option maxHeartbeats 1000000 in
theorem rec_Program {K : Ctx} (b8 b9 : Nat) (c c_0 : Int) (c_1 : S_api_Program) (p : Addr → Prop) (w : World) (v : Value) (hi : Inv K p [.cell b9 (.int .i64 c_0), .cell b8 (enc_S_api_Program c_1)] w) (hv : Rep p w (.ifc 191 (.agg [.int .i64 c])) v) :
    CallsD Tryz.prog 139 #[.pointer (some ⟨b8, 0, none⟩), .pointer (some ⟨b9, 0, none⟩)] (.panicking [{ v, recovered := false }]) w fun e u' w' => u' = .panicking [{ v, recovered := true }] ∧ Left { K with X := fun _ _ => False } (fun d σ => d = .tup [] ∧ σ = [.cell b9 (.int .i64 c), .cell b8 (enc_S_api_Program z_Program)]) e w' := by
  refine callsD_rec Tryz.func139 rfl rfl rfl rfl rfl rfl rfl (by decide) (by decide) (by decide) (by decide) hi hv fun K' => ?_
  refine g_seq ?_
  refine n_run (by kernel_rfl) [(0, .d), (1, .d)] rfl ?_
  refine r_d rfl rfl rfl (s_move rfl rfl) ?_
  refine r_d rfl rfl rfl (s_neqNilI rfl rfl rfl neqI_Program) ?_
  refine r_end ?_
  refine g_condT rfl ?_
  refine g_seq ?_
  refine n_run (by kernel_rfl) [(0, .d), (1, .d), (2, .d), (3, .d), (4, .d), (5, .w), (6, .w), (7, .d)] rfl ?_
  refine r_d rfl rfl rfl (s_move rfl rfl) ?_
  refine r_d rfl rfl rfl (s_assertT rfl ta_failure rfl) ?_
  refine r_d rfl rfl rfl (s_move rfl rfl) ?_
  refine r_d rfl rfl rfl (s_extract rfl rfl rfl) ?_
  refine r_d rfl rfl rfl (s_extract rfl rfl rfl) ?_
  refine r_w rfl rfl rfl (s_alloc rfl zv_snapshot_failure) ?_
  rintro _ _ ⟨b3_0, rfl, rfl⟩
  refine r_w01 rfl rfl rfl (t_store0 _ rfl rfl rfl (Wk.refl _) (pf0 _) (by exact ty_snapshot_failure) rfl rfl rfl) ?_
  refine r_d rfl rfl rfl (s_assign rfl rfl) ?_
  refine r_end ?_
  refine g_freeze 3 b3_0 rfl (pf0 _) ?_
  refine g_seq ?_
  refine g_seq ?_
  refine n_run (by kernel_rfl) [(0, .d), (1, .d)] rfl ?_
  refine r_d rfl rfl rfl (s_move rfl rfl) ?_
  refine r_d rfl rfl rfl (s_not rfl rfl) ?_
  refine r_end ?_
  refine g_condF rfl ?_
  refine g_skip ?_
  refine g_seq ?_
  refine n_run (by kernel_rfl) [(0, .w)] rfl ?_
  refine r_w rfl rfl rfl (s_alloc rfl zv_api_Program) ?_
  rintro _ _ ⟨b5_2, rfl, rfl⟩
  refine r_end ?_
  refine g_any (by kernel_rfl) (by kernel_rfl) [(0, .r), (1, .d), (2, .d), (3, .w), (4, .w)] (by kernel_rfl) ?_
  refine r_r rfl rfl rfl (t_loadRef rfl rfl (.head _) rfl rfl (by exact ty_api_Program) rfl) ?_
  refine r_d rfl rfl rfl (s_fieldAddr rfl fl_snapshot_failure_0 rfl rfl rfl rfl) ?_
  refine r_d rfl rfl rfl (s_load rfl rfl (by exact ty_api_Errno) rfl) ?_
  refine r_w01 rfl rfl rfl (t_store0 _ rfl rfl rfl (Wk.refl _) (pf2 _ _ _ _) (by exact ty_api_Program) rfl (sz_S_api_Program _) rfl) ?_
  refine r_w01 rfl rfl rfl (t_store0 _ rfl rfl rfl (Wk.refl _) (pf2 _ _ _ _) (by exact ty_api_Errno) rfl rfl rfl) ?_
  refine r_end ?_
  refine g_perm [_, _] _ ((pf1 _ _ _).trans (pf1 _ _ _)) ?_
  refine g_endD Tryz.func139 _ .nil ?_
  exact ⟨rfl, rfl⟩
theorem idle_Program {K : Ctx} {σ : St} (b8 b9 : Nat) (p : Addr → Prop) (w : World) (hi : Inv K p σ w) :
    CallsD Tryz.prog 139 #[.pointer (some ⟨b8, 0, none⟩), .pointer (some ⟨b9, 0, none⟩)] .returning w fun e u' w' => u' = .returning ∧ Left { K with X := fun _ _ => False } (fun d σ' => d = .tup [] ∧ σ' = σ) e w' := by
  refine callsD_idle Tryz.func139 rfl rfl rfl rfl rfl rfl rfl (by decide) (by decide) (by decide) (by decide) hi fun K' => ?_
  refine g_seq ?_
  refine n_run (by kernel_rfl) [(0, .d), (1, .d)] rfl ?_
  refine r_d rfl rfl rfl (s_move rfl rfl) ?_
  refine r_d rfl rfl rfl (s_neqNilN rfl rfl fun _ => rfl) ?_
  refine r_end ?_
  refine g_condF rfl ?_
  refine g_skip ?_
  refine g_endD Tryz.func139 _ .nil ?_
  exact ⟨rfl, rfl⟩
theorem cl_whole1_Program : callee Tryz.prog 139 := ⟨_, _, Tryz.func139, rfl, by decide⟩
noncomputable def lf_whole_Program (fuel : Nat) (b_a0 : (List Int)) (first_a1 : Int) : Option (Int ⊕ (S_api_Program × Int)) :=
  (bindX (lf_Psnapshot_reader_number_s1 first_a1 first_a1 (⟨b_a0, 0⟩ : S_snapshot_reader)) fun r_4 =>
  (bindX (lf_snapshot_TakeProgram_1_s1 fuel r_4.2) fun r_5 =>
  (bif (decide (r_5.2.f1_at < (b_a0.length : Int))) then
  some (.inl 3)
  else
  ((lf_snapshot_Program fuel r_5.1).bind fun r_8 =>
  (bif ((r_8.length : Int) == (0 : Int)) then
  some (.inl 2)
  else
  some (.inr (r_5.1, 0)))))))
set_option maxHeartbeats 2000000 in
theorem lg_whole_Program (fuel : Nat) (b_a0 : (List Int)) (first_a1 : Int) (res : Int ⊕ (S_api_Program × Int)) (hr : lf_whole_Program fuel b_a0 first_a1 = some res) : Gives Tryz.prog 46 [.lst (b_a0.map (D.int .u8)), .int .i64 first_a1, .clo (.func 47) [] [], .clo (.func 11) [] []] (.tup [enc_S_api_Program (wholeR z_Program res).1, .int .i64 (wholeR z_Program res).2]) := by
  unfold lf_whole_Program at hr
  refine spec_env [(0, .lst (b_a0.map (D.int .u8))), (1, .int .i64 first_a1), (2, .clo (.func 47) [] []), (3, .clo (.func 11) [] [])] Tryz.func46 rfl rfl fun K hK => ?_
  refine g_seq ?_
  refine g_run (by kernel_rfl) [(0, .w), (1, .w)] rfl ?_
  refine r_w rfl rfl rfl (s_alloc rfl zv_api_Program) ?_
  rintro _ _ ⟨b8_0, rfl, rfl⟩
  refine r_w rfl rfl rfl (s_alloc rfl zv_api_Errno) ?_
  rintro _ _ ⟨b9_1, rfl, rfl⟩
  refine r_end ?_
  refine g_seq ?_
  refine g_defer2 rfl rfl rfl rfl rfl rfl rfl rfl rfl (by decide) ?_
  have hX : ∀ (e : Env) (c : Int), res = .inl c → lk e 8 = some (.ref b8_0 0 []) → lk e 9 = some (.ref b9_1 0 []) → OutD { Md.top with ds := { target := .fn (.func 139) #[.pointer (some ⟨b8_0, 0, none⟩), .pointer (some ⟨b9_1, 0, none⟩)], args := #[] } :: Md.top.ds } Tryz.prog Tryz.f46 K (fun d' _ => d' = .tup [enc_S_api_Program (wholeR z_Program res).1, .int .i64 (wholeR z_Program res).2]) e (.ifc 191 (.agg [.int .i64 c])) [.cell b9_1 (.int .i64 0), .cell b8_0 (enc_S_api_Program z_Program)] := fun e c hc h8 h9 => by
    refine outD_of (s1 := 8) (s2 := 9) (ds := [enc_S_api_Program z_Program, .int .i64 c]) rfl cl_whole1_Program (fun p w v hi hv => rec_Program b8_0 b9_1 c 0 z_Program p w v hi hv) (.cons (resRef rfl (.tail _ (.head _)) (by exact ty_api_Program) (sz_S_api_Program _) (Wk.refl _)) (.cons (resRef rfl (.head _) (by exact ty_api_Errno) rfl (Wk.refl _)) .nil)) ?_ h8 h9
    rw [hc]
    rfl
  refine g_seq ?_
  refine g_runD rfl rfl (by kernel_rfl) [(0, .d), (1, .d), (2, .w), (3, .d)] rfl ?_
  refine r_d rfl rfl rfl (s_move rfl rfl) ?_
  refine r_d rfl rfl rfl (s_build rfl bt_snapshot_reader (.cons rfl (Wk.refl _) .nil) (.cons rfl rfl rfl (.nil _))) ?_
  refine r_w rfl rfl rfl (s_boxRef rfl rfl rfl) ?_
  rintro _ _ ⟨b15_2, rfl, rfl⟩
  refine r_d rfl rfl rfl (s_assign rfl rfl) ?_
  refine r_end ?_
  refine g_seq ?_
  refine g_runD rfl rfl (by kernel_rfl) [(0, .d), (1, .d), (2, .d), (3, .w)] rfl ?_
  refine r_d rfl rfl rfl (s_move rfl rfl) ?_
  refine r_d rfl rfl rfl (s_move rfl rfl) ?_
  refine r_d rfl rfl rfl (s_move rfl rfl) ?_
  rcases bindXS hr with ⟨c_r_4, hr_4, rfl⟩ | ⟨r_4, hr_4, hr⟩
  ·
   refine r_die rfl rfl (s_callXT _ rfl cl_Psnapshot_reader_number (.cons rfl (Wk.refl _) (.cons rfl (Wk.refl _) (.cons rfl (Wk.refl _) .nil))) (by exact (pf0 _)) (specX_inl (lg_Psnapshot_reader_number_s1 _ _ _ _ _ hr_4))) (hX _ _ rfl rfl rfl)
  ·
   refine r_w rfl rfl rfl (s_call _ rfl cl_Psnapshot_reader_number (.cons rfl (Wk.refl _) (.cons rfl (Wk.refl _) (.cons rfl (Wk.refl _) .nil))) (by exact (pf0 _)) (specX_inr (lg_Psnapshot_reader_number_s1 _ _ _ _ _ hr_4))) ?_
   rintro _ _ ⟨_, ⟨rfl, rfl⟩, rfl⟩
   refine r_st ((.cell b15_2 (enc_S_snapshot_reader r_4.2)) :: _) rfl ?_
   refine r_end ?_
   refine g_seq ?_
   refine g_runD rfl rfl (by kernel_rfl) [(0, .d), (1, .d), (2, .w), (3, .w), (4, .w)] rfl ?_
   refine r_d rfl rfl rfl (s_move rfl rfl) ?_
   refine r_d rfl rfl rfl (s_move rfl rfl) ?_
   rcases bindXS hr with ⟨c_r_5, hr_5, rfl⟩ | ⟨r_5, hr_5, hr⟩
   ·
    refine r_die rfl rfl (s_callVXT _ rfl rfl cl_snapshot_TakeProgram_1 (.cons rfl (Wk.refl _) .nil) rfl (by exact (pf0 _)) (specX_inl (lg_snapshot_TakeProgram_1_s1 fuel _ _ _ hr_5))) (hX _ _ rfl rfl rfl)
   ·
    refine r_w rfl rfl rfl (s_callV _ rfl rfl cl_snapshot_TakeProgram_1 (.cons rfl (Wk.refl _) .nil) rfl (by exact (pf0 _)) (specX_inr (lg_snapshot_TakeProgram_1_s1 fuel _ _ _ hr_5))) ?_
    rintro _ _ ⟨_, ⟨rfl, rfl⟩, rfl⟩
    refine r_st ((.cell b15_2 (enc_S_snapshot_reader r_5.2)) :: _) rfl ?_
    refine r_w rfl rfl rfl (s_alloc rfl zv_api_Program) ?_
    rintro _ _ ⟨b11_5, rfl, rfl⟩
    refine r_w01 rfl rfl rfl (t_store0 _ rfl rfl rfl (Wk.refl _) (pf0 _) (by exact ty_api_Program) (sz_S_api_Program _) rfl rfl) ?_
    refine r_end ?_
    refine g_freeze 11 b11_5 rfl (pf0 _) ?_
    refine g_seq ?_
    refine g_block ?_
    refine g_seq ?_
    refine g_runD rfl rfl (by kernel_rfl) [(0, .d), (1, .d), (2, .d), (3, .r), (4, .d), (5, .d), (6, .d), (7, .d)] rfl ?_
    refine r_d rfl rfl rfl (s_move rfl rfl) ?_
    refine r_d rfl rfl rfl (s_nilCheckR rfl rfl) ?_
    refine r_d rfl rfl rfl (s_fieldRef rfl fl_snapshot_reader_1 rfl) ?_
    refine r_r rfl rfl rfl (t_loadRef rfl rfl (.head _) rfl rfl (by exact ty_int) rfl) ?_
    refine r_d rfl rfl rfl (s_move rfl rfl) ?_
    refine r_d rfl rfl rfl (m_len (f := (D.int .u8)) b_a0 rfl el_L_uint8 rfl (asl rfl)) ?_
    refine r_d rfl rfl rfl (s_cmp rfl rfl rfl rfl) ?_
    refine r_d rfl rfl rfl (s_assign rfl rfl) ?_
    refine r_end ?_
    refine g_sB 23 rfl hr (fun h23_6 hr => ?_) (fun h23_6 hr => ?_)
    ·
     refine g_condT rfl ?_
     refine g_runD rfl rfl (by kernel_rfl) [(0, .d), (1, .d), (2, .w)] rfl ?_
     refine r_d rfl rfl rfl (s_build rfl bt_snapshot_failure (.cons rfl (Wk.refl _) .nil) (.cons rfl rfl rfl (.nil _))) ?_
     refine r_d rfl rfl rfl (s_makeIfc rfl Tryz.underlying191 rfl) ?_
     obtain rfl := Option.some.inj hr
     refine r_die rfl rfl (s_panicT _ rfl rfl (List.perm_append_comm (l₁ := [_]) (l₂ := [_, _]))) (hX _ _ rfl rfl rfl)
    ·
     refine g_condF rfl ?_
     refine g_seq ?_
     refine g_runD rfl rfl (by kernel_rfl) [(0, .d), (1, .d), (2, .d), (3, .d), (4, .d), (5, .d)] rfl ?_
     refine r_d rfl rfl rfl (s_move rfl rfl) ?_
     refine r_d rfl rfl rfl (s_load rfl rfl (by exact ty_api_Program) (sz_S_api_Program _)) ?_
     obtain ⟨r_8, hr_8, hr⟩ := bindS hr
     refine r_d rfl rfl rfl (s_callVD rfl rfl cl_snapshot_Program (.cons rfl (Wk.refl _) .nil) rfl (lg_snapshot_Program fuel _ _ hr_8)) ?_
     refine r_d rfl rfl rfl (m_len (f := (D.int .u8)) r_8 rfl el_L_uint8 rfl (asl rfl)) ?_
     refine r_d rfl rfl rfl (s_cmp rfl rfl rfl rfl) ?_
     refine r_d rfl rfl rfl (s_assign rfl rfl) ?_
     refine r_end ?_
     refine g_sB 33 rfl hr (fun h33_8 hr => ?_) (fun h33_8 hr => ?_)
     ·
      refine g_condT rfl ?_
      refine g_runD rfl rfl (by kernel_rfl) [(0, .d), (1, .d), (2, .w)] rfl ?_
      refine r_d rfl rfl rfl (s_build rfl bt_snapshot_failure (.cons rfl (Wk.refl _) .nil) (.cons rfl rfl rfl (.nil _))) ?_
      refine r_d rfl rfl rfl (s_makeIfc rfl Tryz.underlying191 rfl) ?_
      obtain rfl := Option.some.inj hr
      refine r_die rfl rfl (s_panicT _ rfl rfl (List.perm_append_comm (l₁ := [_]) (l₂ := [_, _]))) (hX _ _ rfl rfl rfl)
     ·
      refine g_condF rfl ?_
      refine g_skip ?_
      refine g_inBlock ?_
      refine g_seq ?_
      refine g_runD rfl rfl (by kernel_rfl) [(0, .d), (1, .w), (2, .w)] rfl ?_
      refine r_d rfl rfl rfl (s_load rfl rfl (by exact ty_api_Program) (sz_S_api_Program _)) ?_
      refine r_w01 rfl rfl rfl (t_store0 _ rfl rfl rfl (Wk.refl _) (pf2 _ _ _ _) (by exact ty_api_Program) (sz_S_api_Program _) rfl rfl) ?_
      refine r_w01 rfl rfl rfl (t_store0 _ rfl rfl rfl (Wk.refl _) (pf2 _ _ _ _) (by exact ty_api_Errno) rfl rfl rfl) ?_
      refine r_end ?_
      obtain rfl := Option.some.inj hr
      exact g_retD rfl rfl fun p a w hi hr => leavesD_of (ds := [_, _]) rfl cl_whole1_Program (fun p w hi => idle_Program _ _ p w hi) (s1 := 8) (s2 := 9) rfl rfl (.cons (resRef rfl (.tail _ (.head _)) (by exact ty_api_Program) (sz_S_api_Program _) (Wk.refl _)) (.cons (resRef rfl (.head _) (by exact ty_api_Errno) rfl (Wk.refl _)) .nil)) rfl p a w hi hr

noncomputable def lf_wholeR_Program (fuel : Nat) (b : List Int) (n : Int) : Option (S_api_Program × Int) := (lf_whole_Program fuel b n).bind fun r => some (wholeR z_Program r)
theorem lg_wholeR_Program (fuel : Nat) (b : List Int) (n : Int) (res : S_api_Program × Int) (hr : lf_wholeR_Program fuel b n = some res) : Gives Tryz.prog 46 [.lst (b.map (D.int .u8)), .int .i64 n, .clo (.func 47) [] [], .clo (.func 11) [] []] (.tup [enc_S_api_Program res.1, .int .i64 res.2]) := by
  obtain ⟨r, h1, h2⟩ := bindS hr
  rw [← Option.some.inj h2]
  exact lg_whole_Program fuel b n r h1
/-! ### Config -/
def z_Config : S_api_Config := ⟨[], [], [], [], 0, 0, false⟩
theorem neqI_Config (v : Value) (w : World) : (Op.equal 20 (.iface 191 v) .nilIface).run Tryz.prog w = .ok false w := rfl
set_option maxHeartbeats 1000000 in
theorem rec_Config {K : Ctx} (b8 b9 : Nat) (c c_0 : Int) (c_1 : S_api_Config) (p : Addr → Prop) (w : World) (v : Value) (hi : Inv K p [.cell b9 (.int .i64 c_0), .cell b8 (enc_S_api_Config c_1)] w) (hv : Rep p w (.ifc 191 (.agg [.int .i64 c])) v) :
    CallsD Tryz.prog 160 #[.pointer (some ⟨b8, 0, none⟩), .pointer (some ⟨b9, 0, none⟩)] (.panicking [{ v, recovered := false }]) w fun e u' w' => u' = .panicking [{ v, recovered := true }] ∧ Left { K with X := fun _ _ => False } (fun d σ => d = .tup [] ∧ σ = [.cell b9 (.int .i64 c), .cell b8 (enc_S_api_Config z_Config)]) e w' := by
  refine callsD_rec Tryz.func160 rfl rfl rfl rfl rfl rfl rfl (by decide) (by decide) (by decide) (by decide) hi hv fun K' => ?_
  refine g_seq ?_
  refine n_run (by kernel_rfl) [(0, .d), (1, .d)] rfl ?_
  refine r_d rfl rfl rfl (s_move rfl rfl) ?_
  refine r_d rfl rfl rfl (s_neqNilI rfl rfl rfl neqI_Config) ?_
  refine r_end ?_
  refine g_condT rfl ?_
  refine g_seq ?_
  refine n_run (by kernel_rfl) [(0, .d), (1, .d), (2, .d), (3, .d), (4, .d), (5, .w), (6, .w), (7, .d)] rfl ?_
  refine r_d rfl rfl rfl (s_move rfl rfl) ?_
  refine r_d rfl rfl rfl (s_assertT rfl ta_failure rfl) ?_
  refine r_d rfl rfl rfl (s_move rfl rfl) ?_
  refine r_d rfl rfl rfl (s_extract rfl rfl rfl) ?_
  refine r_d rfl rfl rfl (s_extract rfl rfl rfl) ?_
  refine r_w rfl rfl rfl (s_alloc rfl zv_snapshot_failure) ?_
  rintro _ _ ⟨b3_0, rfl, rfl⟩
  refine r_w01 rfl rfl rfl (t_store0 _ rfl rfl rfl (Wk.refl _) (pf0 _) (by exact ty_snapshot_failure) rfl rfl rfl) ?_
  refine r_d rfl rfl rfl (s_assign rfl rfl) ?_
  refine r_end ?_
  refine g_freeze 3 b3_0 rfl (pf0 _) ?_
  refine g_seq ?_
  refine g_seq ?_
  refine n_run (by kernel_rfl) [(0, .d), (1, .d)] rfl ?_
  refine r_d rfl rfl rfl (s_move rfl rfl) ?_
  refine r_d rfl rfl rfl (s_not rfl rfl) ?_
  refine r_end ?_
  refine g_condF rfl ?_
  refine g_skip ?_
  refine g_seq ?_
  refine n_run (by kernel_rfl) [(0, .w)] rfl ?_
  refine r_w rfl rfl rfl (s_alloc rfl zv_api_Config) ?_
  rintro _ _ ⟨b5_2, rfl, rfl⟩
  refine r_end ?_
  refine g_any (by kernel_rfl) (by kernel_rfl) [(0, .r), (1, .d), (2, .d), (3, .w), (4, .w)] (by kernel_rfl) ?_
  refine r_r rfl rfl rfl (t_loadRef rfl rfl (.head _) rfl rfl (by exact ty_api_Config) rfl) ?_
  refine r_d rfl rfl rfl (s_fieldAddr rfl fl_snapshot_failure_0 rfl rfl rfl rfl) ?_
  refine r_d rfl rfl rfl (s_load rfl rfl (by exact ty_api_Errno) rfl) ?_
  refine r_w01 rfl rfl rfl (t_store0 _ rfl rfl rfl (Wk.refl _) (pf2 _ _ _ _) (by exact ty_api_Config) rfl (sz_S_api_Config _) rfl) ?_
  refine r_w01 rfl rfl rfl (t_store0 _ rfl rfl rfl (Wk.refl _) (pf2 _ _ _ _) (by exact ty_api_Errno) rfl rfl rfl) ?_
  refine r_end ?_
  refine g_perm [_, _] _ ((pf1 _ _ _).trans (pf1 _ _ _)) ?_
  refine g_endD Tryz.func160 _ .nil ?_
  exact ⟨rfl, rfl⟩
theorem idle_Config {K : Ctx} {σ : St} (b8 b9 : Nat) (p : Addr → Prop) (w : World) (hi : Inv K p σ w) :
    CallsD Tryz.prog 160 #[.pointer (some ⟨b8, 0, none⟩), .pointer (some ⟨b9, 0, none⟩)] .returning w fun e u' w' => u' = .returning ∧ Left { K with X := fun _ _ => False } (fun d σ' => d = .tup [] ∧ σ' = σ) e w' := by
  refine callsD_idle Tryz.func160 rfl rfl rfl rfl rfl rfl rfl (by decide) (by decide) (by decide) (by decide) hi fun K' => ?_
  refine g_seq ?_
  refine n_run (by kernel_rfl) [(0, .d), (1, .d)] rfl ?_
  refine r_d rfl rfl rfl (s_move rfl rfl) ?_
  refine r_d rfl rfl rfl (s_neqNilN rfl rfl fun _ => rfl) ?_
  refine r_end ?_
  refine g_condF rfl ?_
  refine g_skip ?_
  refine g_endD Tryz.func160 _ .nil ?_
  exact ⟨rfl, rfl⟩
theorem cl_whole1_Config : callee Tryz.prog 160 := ⟨_, _, Tryz.func160, rfl, by decide⟩
noncomputable def lf_whole_Config (fuel : Nat) (b_a0 : (List Int)) (first_a1 : Int) : Option (Int ⊕ (S_api_Config × Int)) :=
  (bindX (lf_Psnapshot_reader_number_s1 first_a1 first_a1 (⟨b_a0, 0⟩ : S_snapshot_reader)) fun r_4 =>
  (bindX (lf_snapshot_TakeConfig_1_s1 fuel r_4.2) fun r_5 =>
  (bif (decide (r_5.2.f1_at < (b_a0.length : Int))) then
  some (.inl 3)
  else
  ((lf_snapshot_Config fuel r_5.1).bind fun r_8 =>
  (bif ((r_8.length : Int) == (0 : Int)) then
  some (.inl 2)
  else
  some (.inr (r_5.1, 0)))))))
set_option maxHeartbeats 2000000 in
theorem lg_whole_Config (fuel : Nat) (b_a0 : (List Int)) (first_a1 : Int) (res : Int ⊕ (S_api_Config × Int)) (hr : lf_whole_Config fuel b_a0 first_a1 = some res) : Gives Tryz.prog 76 [.lst (b_a0.map (D.int .u8)), .int .i64 first_a1, .clo (.func 77) [] [], .clo (.func 17) [] []] (.tup [enc_S_api_Config (wholeR z_Config res).1, .int .i64 (wholeR z_Config res).2]) := by
  unfold lf_whole_Config at hr
  refine spec_env [(0, .lst (b_a0.map (D.int .u8))), (1, .int .i64 first_a1), (2, .clo (.func 77) [] []), (3, .clo (.func 17) [] [])] Tryz.func76 rfl rfl fun K hK => ?_
  refine g_seq ?_
  refine g_run (by kernel_rfl) [(0, .w), (1, .w)] rfl ?_
  refine r_w rfl rfl rfl (s_alloc rfl zv_api_Config) ?_
  rintro _ _ ⟨b8_0, rfl, rfl⟩
  refine r_w rfl rfl rfl (s_alloc rfl zv_api_Errno) ?_
  rintro _ _ ⟨b9_1, rfl, rfl⟩
  refine r_end ?_
  refine g_seq ?_
  refine g_defer2 rfl rfl rfl rfl rfl rfl rfl rfl rfl (by decide) ?_
  have hX : ∀ (e : Env) (c : Int), res = .inl c → lk e 8 = some (.ref b8_0 0 []) → lk e 9 = some (.ref b9_1 0 []) → OutD { Md.top with ds := { target := .fn (.func 160) #[.pointer (some ⟨b8_0, 0, none⟩), .pointer (some ⟨b9_1, 0, none⟩)], args := #[] } :: Md.top.ds } Tryz.prog Tryz.f76 K (fun d' _ => d' = .tup [enc_S_api_Config (wholeR z_Config res).1, .int .i64 (wholeR z_Config res).2]) e (.ifc 191 (.agg [.int .i64 c])) [.cell b9_1 (.int .i64 0), .cell b8_0 (enc_S_api_Config z_Config)] := fun e c hc h8 h9 => by
    refine outD_of (s1 := 8) (s2 := 9) (ds := [enc_S_api_Config z_Config, .int .i64 c]) rfl cl_whole1_Config (fun p w v hi hv => rec_Config b8_0 b9_1 c 0 z_Config p w v hi hv) (.cons (resRef rfl (.tail _ (.head _)) (by exact ty_api_Config) (sz_S_api_Config _) (Wk.refl _)) (.cons (resRef rfl (.head _) (by exact ty_api_Errno) rfl (Wk.refl _)) .nil)) ?_ h8 h9
    rw [hc]
    rfl
  refine g_seq ?_
  refine g_runD rfl rfl (by kernel_rfl) [(0, .d), (1, .d), (2, .w), (3, .d)] rfl ?_
  refine r_d rfl rfl rfl (s_move rfl rfl) ?_
  refine r_d rfl rfl rfl (s_build rfl bt_snapshot_reader (.cons rfl (Wk.refl _) .nil) (.cons rfl rfl rfl (.nil _))) ?_
  refine r_w rfl rfl rfl (s_boxRef rfl rfl rfl) ?_
  rintro _ _ ⟨b15_2, rfl, rfl⟩
  refine r_d rfl rfl rfl (s_assign rfl rfl) ?_
  refine r_end ?_
  refine g_seq ?_
  refine g_runD rfl rfl (by kernel_rfl) [(0, .d), (1, .d), (2, .d), (3, .w)] rfl ?_
  refine r_d rfl rfl rfl (s_move rfl rfl) ?_
  refine r_d rfl rfl rfl (s_move rfl rfl) ?_
  refine r_d rfl rfl rfl (s_move rfl rfl) ?_
  rcases bindXS hr with ⟨c_r_4, hr_4, rfl⟩ | ⟨r_4, hr_4, hr⟩
  ·
   refine r_die rfl rfl (s_callXT _ rfl cl_Psnapshot_reader_number (.cons rfl (Wk.refl _) (.cons rfl (Wk.refl _) (.cons rfl (Wk.refl _) .nil))) (by exact (pf0 _)) (specX_inl (lg_Psnapshot_reader_number_s1 _ _ _ _ _ hr_4))) (hX _ _ rfl rfl rfl)
  ·
   refine r_w rfl rfl rfl (s_call _ rfl cl_Psnapshot_reader_number (.cons rfl (Wk.refl _) (.cons rfl (Wk.refl _) (.cons rfl (Wk.refl _) .nil))) (by exact (pf0 _)) (specX_inr (lg_Psnapshot_reader_number_s1 _ _ _ _ _ hr_4))) ?_
   rintro _ _ ⟨_, ⟨rfl, rfl⟩, rfl⟩
   refine r_st ((.cell b15_2 (enc_S_snapshot_reader r_4.2)) :: _) rfl ?_
   refine r_end ?_
   refine g_seq ?_
   refine g_runD rfl rfl (by kernel_rfl) [(0, .d), (1, .d), (2, .w), (3, .w), (4, .w)] rfl ?_
   refine r_d rfl rfl rfl (s_move rfl rfl) ?_
   refine r_d rfl rfl rfl (s_move rfl rfl) ?_
   rcases bindXS hr with ⟨c_r_5, hr_5, rfl⟩ | ⟨r_5, hr_5, hr⟩
   ·
    refine r_die rfl rfl (s_callVXT _ rfl rfl cl_snapshot_TakeConfig_1 (.cons rfl (Wk.refl _) .nil) rfl (by exact (pf0 _)) (specX_inl (lg_snapshot_TakeConfig_1_s1 fuel _ _ _ hr_5))) (hX _ _ rfl rfl rfl)
   ·
    refine r_w rfl rfl rfl (s_callV _ rfl rfl cl_snapshot_TakeConfig_1 (.cons rfl (Wk.refl _) .nil) rfl (by exact (pf0 _)) (specX_inr (lg_snapshot_TakeConfig_1_s1 fuel _ _ _ hr_5))) ?_
    rintro _ _ ⟨_, ⟨rfl, rfl⟩, rfl⟩
    refine r_st ((.cell b15_2 (enc_S_snapshot_reader r_5.2)) :: _) rfl ?_
    refine r_w rfl rfl rfl (s_alloc rfl zv_api_Config) ?_
    rintro _ _ ⟨b11_5, rfl, rfl⟩
    refine r_w01 rfl rfl rfl (t_store0 _ rfl rfl rfl (Wk.refl _) (pf0 _) (by exact ty_api_Config) (sz_S_api_Config _) rfl rfl) ?_
    refine r_end ?_
    refine g_freeze 11 b11_5 rfl (pf0 _) ?_
    refine g_seq ?_
    refine g_block ?_
    refine g_seq ?_
    refine g_runD rfl rfl (by kernel_rfl) [(0, .d), (1, .d), (2, .d), (3, .r), (4, .d), (5, .d), (6, .d), (7, .d)] rfl ?_
    refine r_d rfl rfl rfl (s_move rfl rfl) ?_
    refine r_d rfl rfl rfl (s_nilCheckR rfl rfl) ?_
    refine r_d rfl rfl rfl (s_fieldRef rfl fl_snapshot_reader_1 rfl) ?_
    refine r_r rfl rfl rfl (t_loadRef rfl rfl (.head _) rfl rfl (by exact ty_int) rfl) ?_
    refine r_d rfl rfl rfl (s_move rfl rfl) ?_
    refine r_d rfl rfl rfl (m_len (f := (D.int .u8)) b_a0 rfl el_L_uint8 rfl (asl rfl)) ?_
    refine r_d rfl rfl rfl (s_cmp rfl rfl rfl rfl) ?_
    refine r_d rfl rfl rfl (s_assign rfl rfl) ?_
    refine r_end ?_
    refine g_sB 23 rfl hr (fun h23_6 hr => ?_) (fun h23_6 hr => ?_)
    ·
     refine g_condT rfl ?_
     refine g_runD rfl rfl (by kernel_rfl) [(0, .d), (1, .d), (2, .w)] rfl ?_
     refine r_d rfl rfl rfl (s_build rfl bt_snapshot_failure (.cons rfl (Wk.refl _) .nil) (.cons rfl rfl rfl (.nil _))) ?_
     refine r_d rfl rfl rfl (s_makeIfc rfl Tryz.underlying191 rfl) ?_
     obtain rfl := Option.some.inj hr
     refine r_die rfl rfl (s_panicT _ rfl rfl (List.perm_append_comm (l₁ := [_]) (l₂ := [_, _]))) (hX _ _ rfl rfl rfl)
    ·
     refine g_condF rfl ?_
     refine g_seq ?_
     refine g_runD rfl rfl (by kernel_rfl) [(0, .d), (1, .d), (2, .d), (3, .d), (4, .d), (5, .d)] rfl ?_
     refine r_d rfl rfl rfl (s_move rfl rfl) ?_
     refine r_d rfl rfl rfl (s_load rfl rfl (by exact ty_api_Config) (sz_S_api_Config _)) ?_
     obtain ⟨r_8, hr_8, hr⟩ := bindS hr
     refine r_d rfl rfl rfl (s_callVD rfl rfl cl_snapshot_Config (.cons rfl (Wk.refl _) .nil) rfl (lg_snapshot_Config fuel _ _ hr_8)) ?_
     refine r_d rfl rfl rfl (m_len (f := (D.int .u8)) r_8 rfl el_L_uint8 rfl (asl rfl)) ?_
     refine r_d rfl rfl rfl (s_cmp rfl rfl rfl rfl) ?_
     refine r_d rfl rfl rfl (s_assign rfl rfl) ?_
     refine r_end ?_
     refine g_sB 33 rfl hr (fun h33_8 hr => ?_) (fun h33_8 hr => ?_)
     ·
      refine g_condT rfl ?_
      refine g_runD rfl rfl (by kernel_rfl) [(0, .d), (1, .d), (2, .w)] rfl ?_
      refine r_d rfl rfl rfl (s_build rfl bt_snapshot_failure (.cons rfl (Wk.refl _) .nil) (.cons rfl rfl rfl (.nil _))) ?_
      refine r_d rfl rfl rfl (s_makeIfc rfl Tryz.underlying191 rfl) ?_
      obtain rfl := Option.some.inj hr
      refine r_die rfl rfl (s_panicT _ rfl rfl (List.perm_append_comm (l₁ := [_]) (l₂ := [_, _]))) (hX _ _ rfl rfl rfl)
     ·
      refine g_condF rfl ?_
      refine g_skip ?_
      refine g_inBlock ?_
      refine g_seq ?_
      refine g_runD rfl rfl (by kernel_rfl) [(0, .d), (1, .w), (2, .w)] rfl ?_
      refine r_d rfl rfl rfl (s_load rfl rfl (by exact ty_api_Config) (sz_S_api_Config _)) ?_
      refine r_w01 rfl rfl rfl (t_store0 _ rfl rfl rfl (Wk.refl _) (pf2 _ _ _ _) (by exact ty_api_Config) (sz_S_api_Config _) rfl rfl) ?_
      refine r_w01 rfl rfl rfl (t_store0 _ rfl rfl rfl (Wk.refl _) (pf2 _ _ _ _) (by exact ty_api_Errno) rfl rfl rfl) ?_
      refine r_end ?_
      obtain rfl := Option.some.inj hr
      exact g_retD rfl rfl fun p a w hi hr => leavesD_of (ds := [_, _]) rfl cl_whole1_Config (fun p w hi => idle_Config _ _ p w hi) (s1 := 8) (s2 := 9) rfl rfl (.cons (resRef rfl (.tail _ (.head _)) (by exact ty_api_Config) (sz_S_api_Config _) (Wk.refl _)) (.cons (resRef rfl (.head _) (by exact ty_api_Errno) rfl (Wk.refl _)) .nil)) rfl p a w hi hr

noncomputable def lf_wholeR_Config (fuel : Nat) (b : List Int) (n : Int) : Option (S_api_Config × Int) := (lf_whole_Config fuel b n).bind fun r => some (wholeR z_Config r)
theorem lg_wholeR_Config (fuel : Nat) (b : List Int) (n : Int) (res : S_api_Config × Int) (hr : lf_wholeR_Config fuel b n = some res) : Gives Tryz.prog 76 [.lst (b.map (D.int .u8)), .int .i64 n, .clo (.func 77) [] [], .clo (.func 17) [] []] (.tup [enc_S_api_Config res.1, .int .i64 res.2]) := by
  obtain ⟨r, h1, h2⟩ := bindS hr
  rw [← Option.some.inj h2]
  exact lg_whole_Config fuel b n r h1
/-! ### Memory -/
end Go.Proofs.YtdoljfkjdfaakaaGreat


namespace Go.Proofs.YtdoljfkjdfaakaaGreat
set_option maxRecDepth 100000
open Go.RowKit

/-- The string of bytes. -/
def strY (l : List Int) : ByteArray := ⟨(ofY l).toArray⟩
theorem s_toStr {P : Program} {o : Oper} {ρ : Operand → Option D} {x : Operand} {src dst e : TypeId} {dx : D} (l : List Int) (ho : o.op = .convert src dst x) (hs : P.underlying src = some (.slice e)) (he : P.underlying e = some (.int .u8)) (hd : P.underlying dst = some .string) (hx : ρ x = some dx) (hl : AsL dx (l.map (D.int .u8))) : StepD P o ρ (.str (strY l)) := stepD_of fun p a w h => by
  obtain ⟨A, c, xs, h1, h2, h3, h4, h5, _⟩ := hl.rep (h x (by rw [ho]; simp [Op.operands]) _ hx)
  rw [List.length_map] at h1 h2
  obtain ⟨_, rfl⟩ := repsY h5
  have hr : Rd w A ((ofY l).map bv) := by
    rcases h4 with h4 | ⟨b, o, rfl, h4⟩
    · exact .inl h4
    · exact .inr ⟨⟨b, o, none⟩, rfl, fun j u hu => by rw [addF]; exact (h4 j u hu).2⟩
  refine ⟨.string (strY l), ?_, ?_⟩
  · unfold execOp
    rw [ho]
    simp only [h1, Sem.run_bind, run_toStr w src dst e hs he hd A l.length c (ofY l) hr (len_ofY l), Result.andThen_ok, Sem.run_pure]
    rfl
  · simp only [Rep]
    refine ⟨trivial, ?_⟩
    have : (strY l).size = l.length := by
      show (ofY l).toArray.size = _
      rw [List.size_toArray, len_ofY]
    omega
end Go.Proofs.YtdoljfkjdfaakaaGreat

