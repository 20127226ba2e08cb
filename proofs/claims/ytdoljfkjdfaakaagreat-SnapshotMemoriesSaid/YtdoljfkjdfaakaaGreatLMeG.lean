/-
  Texts of the seat, merged.
-/
import Derived.Test.YtdoljfkjdfaakaaGreatLBA
import Derived.Test.YtdoljfkjdfaakaaGreatLBB
import Derived.Test.YtdoljfkjdfaakaaGreatLBC
import Derived.Test.YtdoljfkjdfaakaaGreatLBD
import Derived.Test.YtdoljfkjdfaakaaGreatLBE
import Derived.Test.YtdoljfkjdfaakaaGreatLMeF
import Derived.Test.YtdoljfkjdfaakaaGreatChecked
import Derived.WalkKit
import Derived.Lib.Hide
import Derived.Lib.AppendStr
import Derived.Deep.AppendLies
import Derived.Deep.AppendSrc
import Derived.Deep.Draws
import Derived.Deep.QuietTactic
import Derived.BigQuiet
import Derived.Deep.RegionWith
import Derived.Maps.AppendAt
import Derived.WalkSpells
import Derived.Orders
import Derived.Deep.Slices
import Derived.Deep.Fields
import Derived.ChangeArms
import Derived.Lib.OthersKept
import Derived.Lib.TrimU
import Derived.Lib.IndexAny
import Derived.Deep.LoopGhost
import Derived.Lib.Bytealg
import Derived.RangeFuncBox
import Derived.RangeFuncNested
import Derived.RangeFuncBound
import Derived.RangeFuncCalls
import Derived.RangeFuncLeaves
import Derived.Shelf.Abstract
import Derived.OwnWalkIn
import Derived.TacticsInMore
import Derived.LoopNIn
import Derived.LoopIn
import Derived.RangeFuncWrites
import Derived.Maps.OwnIn
import Derived.Maps.Views
import Derived.Laws.OwnMore
import Derived.Maps.OwnSet
import Derived.Laws.IdiomStrings
import Derived.Test.YtdoljfkjdfaakaaGreatRows
import Derived.ProofKit
import Derived.OpenShut
import Derived.Carry
import Derived.OrdersIn
import Derived.Great.BuildSlice
import Derived.ArgAppend
import Derived.Laws.MakeOwn
import Derived.Laws.Cover3
import Derived.Laws.CopyRow
import Derived.MapKept
import Derived.Maps.RangeRun
import Derived.DeepKeys5
import Derived.WideKeyRuns
import Derived.RangeFuncOwn
import Derived.Defers
import Derived.Recover
import Derived.Tactics
import Derived.Tactics2
import Derived.KernelRfl
import Derived.ChangeSlices
import Derived.JoinedCond
set_option linter.unusedVariables false
set_option linter.unusedSimpArgs false
set_option linter.unnecessarySimpa false
set_option linter.all false

namespace Go.Proofs.YtdoljfkjdfaakaaGreat
set_option maxRecDepth 100000
open Go.RowKit

noncomputable def lf_Psnapshot_reader_fact_s1 (fuel : Nat) (c_0 : S_snapshot_reader) : Option (Int ⊕ (S_api_Fact × S_snapshot_reader)) :=
  (bindX (lf_Psnapshot_reader_item_s1 fuel c_0) fun r_2 =>
  (bindX (lf_Psnapshot_reader_numbers_s1 64 64 r_2.2) fun r_4 =>
  some (.inr ((⟨r_2.1.1, r_2.1.2, r_4.1⟩ : S_api_Fact), r_4.2))))

set_option maxHeartbeats 1000000 in
theorem lg_Psnapshot_reader_fact_s1 (fuel : Nat) (c_0 : S_snapshot_reader) (b_o0 : Nat) (res : Int ⊕ (S_api_Fact × S_snapshot_reader)) (hr : lf_Psnapshot_reader_fact_s1 fuel c_0 = some res) : SpecX Tryz.prog 113 [.ref b_o0 0 []] [.cell b_o0 (enc_S_snapshot_reader c_0)] (fun d σ => ∃ r : S_api_Fact × S_snapshot_reader, res = .inr r ∧ d = enc_S_api_Fact r.1 ∧ σ = [.cell b_o0 (enc_S_snapshot_reader r.2)]) (fun d => ∃ c, res = .inl c ∧ d = .ifc 191 (.agg [.int .i64 c])) := by
  unfold lf_Psnapshot_reader_fact_s1 at hr
  refine spec_envX [(0, .ref b_o0 0 [])] Tryz.func113 rfl rfl fun K hK hX => ?_
  refine g_seq ?_
  refine g_run (by kernel_rfl) [(0, .w)] rfl ?_
  refine r_w rfl rfl rfl (s_alloc rfl zv_api_Fact) ?_
  rintro _ _ ⟨b2_0, rfl, rfl⟩
  refine r_end ?_
  refine g_seq ?_
  refine g_run (by kernel_rfl) [(0, .d), (1, .w), (2, .w), (3, .w)] rfl ?_
  refine r_d rfl rfl rfl (s_move rfl rfl) ?_
  rcases bindXS hr with ⟨c_r_2, hr_2, rfl⟩ | ⟨r_2, hr_2, hr⟩
  ·
   refine r_die rfl rfl (s_callX _ rfl cl_Psnapshot_reader_item (.cons rfl (Wk.refl _) .nil) (by exact (pf1 _ _ _)) (specX_inl (lg_Psnapshot_reader_item_s1 fuel _ _ _ hr_2))) (hX _ ⟨_, rfl, rfl⟩)
  ·
   refine r_w rfl rfl rfl (s_call _ rfl cl_Psnapshot_reader_item (.cons rfl (Wk.refl _) .nil) (by exact (pf1 _ _ _)) (specX_inr (lg_Psnapshot_reader_item_s1 fuel _ _ _ hr_2))) ?_
   rintro _ _ ⟨_, ⟨rfl, rfl⟩, rfl⟩
   refine r_st ((.cell b_o0 (enc_S_snapshot_reader r_2.2)) :: _) rfl ?_
   refine r_w rfl rfl rfl (s_alloc rfl zv_api_Item) ?_
   rintro _ _ ⟨b3_2, rfl, rfl⟩
   refine r_w01 rfl rfl rfl (t_store0 _ rfl rfl rfl (Wk.refl _) (pf0 _) (by exact ty_api_Item) (sz_encIt _) (by first | rfl | simp [sz, szs, szs_fsT, sz_encA]) rfl) ?_
   refine r_end ?_
   refine g_freeze 3 b3_2 rfl (pf0 _) ?_
   refine g_seq ?_
   refine g_anyX (by kernel_rfl) (by kernel_rfl) [(0, .d), (1, .d), (2, .d), (3, .d), (4, .d), (5, .w), (6, .d), (7, .w)] (by kernel_rfl) ?_
   refine r_d rfl rfl rfl (s_fieldAddr rfl fl_api_Item_0 rfl rfl rfl rfl) ?_
   refine r_d rfl rfl rfl (s_load rfl rfl (by exact ty_int) rfl) ?_
   refine r_d rfl rfl rfl (s_fieldAddr rfl fl_api_Item_1 rfl rfl rfl rfl) ?_
   refine r_d rfl rfl rfl (s_load rfl rfl (by exact ty_api_Atom) (sz_encA _)) ?_
   refine r_d rfl rfl rfl (s_move rfl rfl) ?_
   rcases bindXS hr with ⟨c_r_4, hr_4, rfl⟩ | ⟨r_4, hr_4, hr⟩
   ·
    refine r_die rfl rfl (s_callX _ rfl cl_Psnapshot_reader_numbers (.cons rfl (Wk.refl _) (.cons rfl (Wk.refl _) (.cons rfl (Wk.refl _) .nil))) (by exact (pf0 _)) (specX_inl (lg_Psnapshot_reader_numbers_s1 _ _ _ _ _ hr_4))) (hX _ ⟨_, rfl, rfl⟩)
   ·
    refine r_w rfl rfl rfl (s_call _ rfl cl_Psnapshot_reader_numbers (.cons rfl (Wk.refl _) (.cons rfl (Wk.refl _) (.cons rfl (Wk.refl _) .nil))) (by exact (pf0 _)) (specX_inr (lg_Psnapshot_reader_numbers_s1 _ _ _ _ _ hr_4))) ?_
    rintro _ _ ⟨_, ⟨rfl, rfl⟩, rfl⟩
    refine r_st ((.cell b_o0 (enc_S_snapshot_reader r_4.2)) :: _) rfl ?_
    refine r_d rfl rfl rfl (s_build rfl bt_api_Fact (.cons rfl (Wk.refl _) (.cons rfl (Wk.refl _) (.cons rfl (Wk.refl _) .nil))) (.cons rfl rfl rfl (.cons rfl (sz_encA _) rfl (.cons rfl rfl rfl (.nil _))))) ?_
    refine r_w01 rfl rfl rfl (t_store0 _ rfl rfl rfl (Wk.refl _) (pf1 _ _ _) (by exact ty_api_Fact) (by first | rfl | simp [sz, szs, szs_fsT, sz_encA]) (by first | rfl | simp [sz, szs, szs_fsT, sz_encA]) rfl) ?_
    refine r_end ?_
    refine g_freeze 2 b2_0 rfl (pf0 _) ?_
    obtain rfl := Option.some.inj hr
    refine g_ret Tryz.func113 _ (.cons (resPtr rfl (by exact ty_api_Fact) (by first | rfl | simp [sz, szs, szs_fsT, sz_encA]) (Wk.refl _)) .nil) ?_
    exact ⟨_, rfl, rfl, rfl⟩

noncomputable def lf_snapshot_take_s11_L0 (k : ((List S_api_Fact)) → (S_snapshot_reader) → Option (Int ⊕ ((List S_api_Fact) × S_snapshot_reader))) (fuel : Nat) : Nat → (List S_api_Fact) → S_snapshot_reader → Option (Int ⊕ ((List S_api_Fact) × S_snapshot_reader))
  | 0, out_5, r_7 =>
  (k out_5 r_7)
  | rest + 1, out_5, r_7 =>
  (bindX (lf_Psnapshot_reader_fact_s1 fuel r_7) fun r_11 =>
  ((appO 72 out_5 [r_11.1]).bind fun l_12 =>
  (lf_snapshot_take_s11_L0 k fuel rest l_12 r_11.2)))
noncomputable def lf_snapshot_take_s11 (fuel : Nat) (most_a1 : Int) (c_0 : S_snapshot_reader) : Option (Int ⊕ ((List S_api_Fact) × S_snapshot_reader)) :=
  (bindX (lf_Psnapshot_reader_number_s1 0 most_a1 c_0) fun r_3 =>
  (lf_snapshot_take_s11_L0 (fun out_9 r_10 =>
  some (.inr (out_9, r_10))) fuel (r_3.1 - 0 : Int).toNat [] r_3.2))

set_option maxHeartbeats 1000000 in
theorem lg_snapshot_take_s11 (fuel : Nat) (most_a1 : Int) (c_0 : S_snapshot_reader) (b_o0 : Nat) (res : Int ⊕ ((List S_api_Fact) × S_snapshot_reader)) (hr : lf_snapshot_take_s11 fuel most_a1 c_0 = some res) : SpecX Tryz.prog 112 [.ref b_o0 0 [], .int .i64 most_a1, .clo (.func 113) [.ref b_o0 0 []] []] [.cell b_o0 (enc_S_snapshot_reader c_0)] (fun d σ => ∃ r : (List S_api_Fact) × S_snapshot_reader, res = .inr r ∧ d = .lst (r.1.map enc_S_api_Fact) ∧ σ = [.cell b_o0 (enc_S_snapshot_reader r.2)]) (fun d => ∃ c, res = .inl c ∧ d = .ifc 191 (.agg [.int .i64 c])) := by
  unfold lf_snapshot_take_s11 at hr
  refine spec_envX [(0, .ref b_o0 0 []), (1, .int .i64 most_a1), (2, .clo (.func 113) [.ref b_o0 0 []] [])] Tryz.func112 rfl rfl fun K hK hX => ?_
  refine g_seq ?_
  refine g_run (by kernel_rfl) [(0, .w)] rfl ?_
  refine r_w rfl rfl rfl (s_nilOwn 146 4 (.inl rfl)) ?_
  rintro _ _ ⟨u6_0, rfl, rfl⟩
  refine r_end ?_
  refine g_seq ?_
  refine g_run (by kernel_rfl) [(0, .w)] rfl ?_
  refine r_w rfl rfl rfl (s_nilOwn 146 4 (.inl rfl)) ?_
  rintro _ _ ⟨u7_1, rfl, rfl⟩
  refine r_end ?_
  refine g_seq ?_
  refine g_seq ?_
  refine g_run (by kernel_rfl) [(0, .d), (1, .d), (2, .w), (3, .d)] rfl ?_
  refine r_d rfl rfl rfl (s_move rfl rfl) ?_
  refine r_d rfl rfl rfl (s_move rfl rfl) ?_
  rcases bindXS hr with ⟨c_r_3, hr_3, rfl⟩ | ⟨r_3, hr_3, hr⟩
  ·
   refine r_die rfl rfl (s_callX _ rfl cl_Psnapshot_reader_number (.cons rfl (Wk.refl _) (.cons rfl (Wk.refl _) (.cons rfl (Wk.refl _) .nil))) (by exact (pf2 _ _ _ _)) (specX_inl (lg_Psnapshot_reader_number_s1 _ _ _ _ _ hr_3))) (hX _ ⟨_, rfl, rfl⟩)
  ·
   refine r_w rfl rfl rfl (s_call _ rfl cl_Psnapshot_reader_number (.cons rfl (Wk.refl _) (.cons rfl (Wk.refl _) (.cons rfl (Wk.refl _) .nil))) (by exact (pf2 _ _ _ _)) (specX_inr (lg_Psnapshot_reader_number_s1 _ _ _ _ _ hr_3))) ?_
   rintro _ _ ⟨_, ⟨rfl, rfl⟩, rfl⟩
   refine r_st ((.cell b_o0 (enc_S_snapshot_reader r_3.2)) :: _) rfl ?_
   refine r_d rfl rfl rfl (s_move rfl rfl) ?_
   refine r_end ?_
   obtain ⟨kk0, hkk0, hr⟩ := exK (fun k => lf_snapshot_take_s11_L0 k fuel (r_3.1 - 0 : Int).toNat [] r_3.2) hr
   refine g_int 10 rfl fun hla0 => ?_
   refine g_blockJ (fun env σ => ∃ (out_9 : (List S_api_Fact)) (r_10 : S_snapshot_reader) (u_8 : Value), env = [(7, .own u_8 (out_9.map enc_S_api_Fact))] ∧ σ = [.row u_8 out_9.length 146 4, .cell b_o0 (enc_S_snapshot_reader r_10)] ∧ kk0 out_9 r_10 = some res) ?_ (fun HK0 => ?_)
   ·
    rintro _ _ ⟨out_9, r_10, u_8, rfl, rfl, hr⟩
    rw [hkk0] at hr
    refine g_seq ?_
    refine g_run (by kernel_rfl) [(0, .d), (1, .d)] rfl ?_
    refine r_d rfl rfl rfl (s_move rfl rfl) ?_
    refine r_d rfl rfl rfl (s_assign rfl rfl) ?_
    refine r_end ?_
    refine g_perm [_] _ (pf1 _ _ _) ?_
    obtain rfl := Option.some.inj hr
    refine g_ret Tryz.func112 _ (.cons (resTmp rfl (Wk.own _ _)) .nil) ?_
    exact ⟨_, rfl, rfl, rfl⟩
   ·
    refine g_sub [(2, .clo (.func 113) [.ref b_o0 0 []] []), (10, .int .i64 r_3.1), (7, .own u7_1 ([].map enc_S_api_Fact)), (11, .int .i64 0)] (Sub.cons' rfl (Sub.cons' rfl (Sub.cons' rfl (Sub.cons' rfl (Sub.nil _))))) ?_
    refine g_perm [_, _] _ ((pf1 _ _ _).trans (pf1 _ _ _)) ?_
    refine g_loop (fun n env σ => ∃ (out_5 : (List S_api_Fact)) (t11_6 : Int) (r_7 : S_snapshot_reader) (u_4 : Value) (m0 : Nat), (m0 = n) ∧ (env = [(2, .clo (.func 113) [.ref b_o0 0 []] []), (10, .int .i64 r_3.1), (7, .own u_4 (out_5.map enc_S_api_Fact)), (11, .int .i64 t11_6)]) ∧ (σ = [.cell b_o0 (enc_S_snapshot_reader r_7), .row u_4 out_5.length 146 4]) ∧ (m0 = (r_3.1 - t11_6 : Int).toNat) ∧ (lf_snapshot_take_s11_L0 kk0 fuel m0 out_5 r_7 = some res)) _ ⟨[], 0, r_3.2, u7_1, _, rfl, rfl, rfl, rfl, hr⟩ ?_
    rintro n _ _ ⟨out_5, t11_6, r_7, u_4, m0, rfl, rfl, rfl, hi0, hr⟩ IH0
    refine g_int 11 rfl fun hb0 => ?_
    rcases cntStep t11_6 r_3.1 m0 hi0 with ⟨hm0, ht0⟩ | ⟨m0', hm0, ht0, hi0', hlt0⟩
    ·
     rw [hm0, lf_snapshot_take_s11_L0] at hr
     refine g_seq ?_
     refine g_run (by kernel_rfl) [(0, .d)] rfl ?_
     refine r_d rfl rfl rfl (s_cmp rfl rfl rfl rfl) ?_
     refine r_end ?_
     refine g_seq ?_
     refine g_known 12 false rfl ht0 ?_
     refine g_condF rfl ?_
     refine g_exit rfl ?_
     refine g_sub [(7, .own u_4 (out_5.map enc_S_api_Fact))] (Sub.cons' rfl (Sub.nil _)) ?_
     refine g_perm [_, _] _ ((pf0 _).trans (pf1 _ _ _)) ?_
     exact HK0 _ _ ⟨out_5, r_7, u_4, rfl, rfl, hr⟩
    ·
     rw [hm0, lf_snapshot_take_s11_L0] at hr
     refine g_seq ?_
     refine g_run (by kernel_rfl) [(0, .d)] rfl ?_
     refine r_d rfl rfl rfl (s_cmp rfl rfl rfl rfl) ?_
     refine r_end ?_
     refine g_seq ?_
     refine g_int 10 rfl fun hbN10 => ?_
     refine g_known 12 true rfl ht0 ?_
     refine g_condT rfl ?_
     refine g_skip ?_
     refine g_seq ?_
     refine g_block ?_
     refine g_run (by kernel_rfl) [(0, .d), (1, .d), (2, .w), (3, .d), (4, .w), (5, .d)] rfl ?_
     refine r_d rfl rfl rfl (s_move rfl rfl) ?_
     refine r_d rfl rfl rfl (s_move rfl rfl) ?_
     rcases bindXS hr with ⟨c_r_11, hr_11, rfl⟩ | ⟨r_11, hr_11, hr⟩
     ·
      refine r_die rfl rfl (s_callVX _ rfl rfl cl_Psnapshot_reader_fact .nil rfl (by exact (pf0 _)) (specX_inl (lg_Psnapshot_reader_fact_s1 fuel _ _ _ hr_11))) (hX _ ⟨_, rfl, rfl⟩)
     ·
      refine r_w rfl rfl rfl (s_callV _ rfl rfl cl_Psnapshot_reader_fact .nil rfl (by exact (pf0 _)) (specX_inr (lg_Psnapshot_reader_fact_s1 fuel _ _ _ hr_11))) ?_
      rintro _ _ ⟨_, ⟨rfl, rfl⟩, rfl⟩
      refine r_st ((.cell b_o0 (enc_S_snapshot_reader r_11.2)) :: _) rfl ?_
      refine r_d rfl rfl rfl (m_lit (f := enc_S_api_Fact) [.tmp 15] [r_11.1] rfl el_L_api_Fact rfl rfl (by decide) (by decide) (.cons rfl (Wk.refl _) .nil) sz_S_api_Fact (fun _ => rfl)) ?_
      obtain ⟨l_12, hl_12, hr⟩ := bindS hr
      refine r_w rfl rfl rfl (m_appOwn (f := enc_S_api_Fact) out_5 [r_11.1] rfl el_L_api_Fact rfl rfl (asl rfl) (pf1 _ _ _) rfl sz_S_api_Fact hl_12) ?_
      rintro _ _ ⟨u17_12, rfl, rfl⟩
      refine r_d rfl rfl rfl (s_assign rfl rfl) ?_
      refine r_end ?_
      refine g_inBlock ?_
      refine g_run (by kernel_rfl) [(0, .d), (1, .d)] rfl ?_
      refine r_d rfl rfl rfl (s_ar (r := t11_6 + 1) rfl rfl rfl rfl (by omega)) ?_
      refine r_d rfl rfl rfl (s_move rfl rfl) ?_
      refine r_end ?_
      refine g_sub [(2, .clo (.func 113) [.ref b_o0 0 []] []), (10, .int .i64 r_3.1), (7, .own u17_12 (l_12.map enc_S_api_Fact)), (11, .int .i64 (t11_6 + 1))] (Sub.cons' rfl (Sub.cons' rfl (Sub.cons' rfl (Sub.cons' rfl (Sub.nil _))))) ?_
      refine g_perm [_, _] _ ((pf0 _).trans (pf1 _ _ _)) ?_
      exact IH0 _ _ _ (by omega) ⟨l_12, (t11_6 + 1), r_11.2, u17_12, _, rfl, rfl, rfl, hi0', hr⟩

noncomputable def lf_Psnapshot_reader_applied_s1 (c_0 : S_snapshot_reader) : Option (Int ⊕ (S_api_Applied × S_snapshot_reader)) :=
  (bindX (lf_Psnapshot_reader_number_s1 0 40 c_0) fun r_2 =>
  (bindX (lf_Psnapshot_reader_numbers_s1 4 2147483648 r_2.2) fun r_3 =>
  (bindX (lf_Psnapshot_reader_numbers_s1 4 2147483648 r_3.2) fun r_4 =>
  (bindX (lf_Psnapshot_reader_numbers_s1 12 2147483648 r_4.2) fun r_5 =>
  (bindX (lf_Psnapshot_reader_flag_s1 r_5.2) fun r_6 =>
  (bindX (lf_Psnapshot_reader_numbers_s1 64 64 r_6.2) fun r_7 =>
  some (.inr ((⟨r_2.1, r_3.1, r_4.1, r_5.1, r_6.1, r_7.1⟩ : S_api_Applied), r_7.2))))))))

set_option maxHeartbeats 1000000 in
theorem lg_Psnapshot_reader_applied_s1 (c_0 : S_snapshot_reader) (b_o0 : Nat) (res : Int ⊕ (S_api_Applied × S_snapshot_reader)) (hr : lf_Psnapshot_reader_applied_s1 c_0 = some res) : SpecX Tryz.prog 115 [.ref b_o0 0 []] [.cell b_o0 (enc_S_snapshot_reader c_0)] (fun d σ => ∃ r : S_api_Applied × S_snapshot_reader, res = .inr r ∧ d = enc_S_api_Applied r.1 ∧ σ = [.cell b_o0 (enc_S_snapshot_reader r.2)]) (fun d => ∃ c, res = .inl c ∧ d = .ifc 191 (.agg [.int .i64 c])) := by
  unfold lf_Psnapshot_reader_applied_s1 at hr
  refine spec_envX [(0, .ref b_o0 0 [])] Tryz.func115 rfl rfl fun K hK hX => ?_
  refine g_seq ?_
  refine g_run (by kernel_rfl) [(0, .w)] rfl ?_
  refine r_w rfl rfl rfl (s_alloc rfl zv_api_Applied) ?_
  rintro _ _ ⟨b2_0, rfl, rfl⟩
  refine r_end ?_
  refine g_seq ?_
  refine g_run (by kernel_rfl) [(0, .d), (1, .w), (2, .d), (3, .w)] rfl ?_
  refine r_d rfl rfl rfl (s_move rfl rfl) ?_
  rcases bindXS hr with ⟨c_r_2, hr_2, rfl⟩ | ⟨r_2, hr_2, hr⟩
  ·
   refine r_die rfl rfl (s_callX _ rfl cl_Psnapshot_reader_number (.cons rfl (Wk.refl _) (.cons rfl (Wk.refl _) (.cons rfl (Wk.refl _) .nil))) (by exact (pf1 _ _ _)) (specX_inl (lg_Psnapshot_reader_number_s1 _ _ _ _ _ hr_2))) (hX _ ⟨_, rfl, rfl⟩)
  ·
   refine r_w rfl rfl rfl (s_call _ rfl cl_Psnapshot_reader_number (.cons rfl (Wk.refl _) (.cons rfl (Wk.refl _) (.cons rfl (Wk.refl _) .nil))) (by exact (pf1 _ _ _)) (specX_inr (lg_Psnapshot_reader_number_s1 _ _ _ _ _ hr_2))) ?_
   rintro _ _ ⟨_, ⟨rfl, rfl⟩, rfl⟩
   refine r_st ((.cell b_o0 (enc_S_snapshot_reader r_2.2)) :: _) rfl ?_
   refine r_d rfl rfl rfl (s_fieldRef rfl fl_api_Applied_0 rfl) ?_
   refine r_w01 rfl rfl rfl (t_store _ rfl rfl rfl (Wk.refl _) (pf1 _ _ _) rfl rfl (by exact ty_int) rfl rfl rfl) ?_
   refine r_end ?_
   refine g_seq ?_
   refine g_run (by kernel_rfl) [(0, .d), (1, .w), (2, .d), (3, .w)] rfl ?_
   refine r_d rfl rfl rfl (s_move rfl rfl) ?_
   rcases bindXS hr with ⟨c_r_3, hr_3, rfl⟩ | ⟨r_3, hr_3, hr⟩
   ·
    refine r_die rfl rfl (s_callX _ rfl cl_Psnapshot_reader_numbers (.cons rfl (Wk.refl _) (.cons rfl (Wk.refl _) (.cons rfl (Wk.refl _) .nil))) (by exact (pf1 _ _ _)) (specX_inl (lg_Psnapshot_reader_numbers_s1 _ _ _ _ _ hr_3))) (hX _ ⟨_, rfl, rfl⟩)
   ·
    refine r_w rfl rfl rfl (s_call _ rfl cl_Psnapshot_reader_numbers (.cons rfl (Wk.refl _) (.cons rfl (Wk.refl _) (.cons rfl (Wk.refl _) .nil))) (by exact (pf1 _ _ _)) (specX_inr (lg_Psnapshot_reader_numbers_s1 _ _ _ _ _ hr_3))) ?_
    rintro _ _ ⟨_, ⟨rfl, rfl⟩, rfl⟩
    refine r_st ((.cell b_o0 (enc_S_snapshot_reader r_3.2)) :: _) rfl ?_
    refine r_d rfl rfl rfl (s_fieldRef rfl fl_api_Applied_1 rfl) ?_
    refine r_w01 rfl rfl rfl (t_store _ rfl rfl rfl (Wk.refl _) (pf1 _ _ _) rfl rfl (by exact ty_L_int) rfl rfl rfl) ?_
    refine r_end ?_
    refine g_seq ?_
    refine g_run (by kernel_rfl) [(0, .d), (1, .w), (2, .d), (3, .w)] rfl ?_
    refine r_d rfl rfl rfl (s_move rfl rfl) ?_
    rcases bindXS hr with ⟨c_r_4, hr_4, rfl⟩ | ⟨r_4, hr_4, hr⟩
    ·
     refine r_die rfl rfl (s_callX _ rfl cl_Psnapshot_reader_numbers (.cons rfl (Wk.refl _) (.cons rfl (Wk.refl _) (.cons rfl (Wk.refl _) .nil))) (by exact (pf1 _ _ _)) (specX_inl (lg_Psnapshot_reader_numbers_s1 _ _ _ _ _ hr_4))) (hX _ ⟨_, rfl, rfl⟩)
    ·
     refine r_w rfl rfl rfl (s_call _ rfl cl_Psnapshot_reader_numbers (.cons rfl (Wk.refl _) (.cons rfl (Wk.refl _) (.cons rfl (Wk.refl _) .nil))) (by exact (pf1 _ _ _)) (specX_inr (lg_Psnapshot_reader_numbers_s1 _ _ _ _ _ hr_4))) ?_
     rintro _ _ ⟨_, ⟨rfl, rfl⟩, rfl⟩
     refine r_st ((.cell b_o0 (enc_S_snapshot_reader r_4.2)) :: _) rfl ?_
     refine r_d rfl rfl rfl (s_fieldRef rfl fl_api_Applied_2 rfl) ?_
     refine r_w01 rfl rfl rfl (t_store _ rfl rfl rfl (Wk.refl _) (pf1 _ _ _) rfl rfl (by exact ty_L_int) rfl rfl rfl) ?_
     refine r_end ?_
     refine g_seq ?_
     refine g_run (by kernel_rfl) [(0, .d), (1, .w), (2, .d), (3, .w)] rfl ?_
     refine r_d rfl rfl rfl (s_move rfl rfl) ?_
     rcases bindXS hr with ⟨c_r_5, hr_5, rfl⟩ | ⟨r_5, hr_5, hr⟩
     ·
      refine r_die rfl rfl (s_callX _ rfl cl_Psnapshot_reader_numbers (.cons rfl (Wk.refl _) (.cons rfl (Wk.refl _) (.cons rfl (Wk.refl _) .nil))) (by exact (pf1 _ _ _)) (specX_inl (lg_Psnapshot_reader_numbers_s1 _ _ _ _ _ hr_5))) (hX _ ⟨_, rfl, rfl⟩)
     ·
      refine r_w rfl rfl rfl (s_call _ rfl cl_Psnapshot_reader_numbers (.cons rfl (Wk.refl _) (.cons rfl (Wk.refl _) (.cons rfl (Wk.refl _) .nil))) (by exact (pf1 _ _ _)) (specX_inr (lg_Psnapshot_reader_numbers_s1 _ _ _ _ _ hr_5))) ?_
      rintro _ _ ⟨_, ⟨rfl, rfl⟩, rfl⟩
      refine r_st ((.cell b_o0 (enc_S_snapshot_reader r_5.2)) :: _) rfl ?_
      refine r_d rfl rfl rfl (s_fieldRef rfl fl_api_Applied_3 rfl) ?_
      refine r_w01 rfl rfl rfl (t_store _ rfl rfl rfl (Wk.refl _) (pf1 _ _ _) rfl rfl (by exact ty_L_int) rfl rfl rfl) ?_
      refine r_end ?_
      refine g_seq ?_
      refine g_run (by kernel_rfl) [(0, .d), (1, .w), (2, .d), (3, .w)] rfl ?_
      refine r_d rfl rfl rfl (s_move rfl rfl) ?_
      rcases bindXS hr with ⟨c_r_6, hr_6, rfl⟩ | ⟨r_6, hr_6, hr⟩
      ·
       refine r_die rfl rfl (s_callX _ rfl cl_Psnapshot_reader_flag (.cons rfl (Wk.refl _) .nil) (by exact (pf1 _ _ _)) (specX_inl (lg_Psnapshot_reader_flag_s1 _ _ _ hr_6))) (hX _ ⟨_, rfl, rfl⟩)
      ·
       refine r_w rfl rfl rfl (s_call _ rfl cl_Psnapshot_reader_flag (.cons rfl (Wk.refl _) .nil) (by exact (pf1 _ _ _)) (specX_inr (lg_Psnapshot_reader_flag_s1 _ _ _ hr_6))) ?_
       rintro _ _ ⟨_, ⟨rfl, rfl⟩, rfl⟩
       refine r_st ((.cell b_o0 (enc_S_snapshot_reader r_6.2)) :: _) rfl ?_
       refine r_d rfl rfl rfl (s_fieldRef rfl fl_api_Applied_4 rfl) ?_
       refine r_w01 rfl rfl rfl (t_store _ rfl rfl rfl (Wk.refl _) (pf1 _ _ _) rfl rfl (by exact ty_bool) rfl rfl rfl) ?_
       refine r_end ?_
       refine g_seq ?_
       refine g_run (by kernel_rfl) [(0, .d), (1, .w), (2, .d), (3, .w)] rfl ?_
       refine r_d rfl rfl rfl (s_move rfl rfl) ?_
       rcases bindXS hr with ⟨c_r_7, hr_7, rfl⟩ | ⟨r_7, hr_7, hr⟩
       ·
        refine r_die rfl rfl (s_callX _ rfl cl_Psnapshot_reader_numbers (.cons rfl (Wk.refl _) (.cons rfl (Wk.refl _) (.cons rfl (Wk.refl _) .nil))) (by exact (pf1 _ _ _)) (specX_inl (lg_Psnapshot_reader_numbers_s1 _ _ _ _ _ hr_7))) (hX _ ⟨_, rfl, rfl⟩)
       ·
        refine r_w rfl rfl rfl (s_call _ rfl cl_Psnapshot_reader_numbers (.cons rfl (Wk.refl _) (.cons rfl (Wk.refl _) (.cons rfl (Wk.refl _) .nil))) (by exact (pf1 _ _ _)) (specX_inr (lg_Psnapshot_reader_numbers_s1 _ _ _ _ _ hr_7))) ?_
        rintro _ _ ⟨_, ⟨rfl, rfl⟩, rfl⟩
        refine r_st ((.cell b_o0 (enc_S_snapshot_reader r_7.2)) :: _) rfl ?_
        refine r_d rfl rfl rfl (s_fieldRef rfl fl_api_Applied_5 rfl) ?_
        refine r_w01 rfl rfl rfl (t_store _ rfl rfl rfl (Wk.refl _) (pf1 _ _ _) rfl rfl (by exact ty_L_int) rfl rfl rfl) ?_
        refine r_end ?_
        refine g_seq ?_
        refine g_run (by kernel_rfl) [(0, .r), (1, .w)] rfl ?_
        refine r_r rfl rfl rfl (t_loadRef rfl rfl (.head _) rfl rfl (by exact ty_api_Applied) rfl) ?_
        refine r_w01 rfl rfl rfl (t_store0 _ rfl rfl rfl (Wk.refl _) (pf0 _) (by exact ty_api_Applied) rfl rfl rfl) ?_
        refine r_end ?_
        refine g_freeze 2 b2_0 rfl (pf0 _) ?_
        obtain rfl := Option.some.inj hr
        refine g_ret Tryz.func115 _ (.cons (resPtr rfl (by exact ty_api_Applied) rfl (Wk.refl _)) .nil) ?_
        exact ⟨_, rfl, rfl, rfl⟩

noncomputable def lf_snapshot_take_s12_L0 (k : ((List S_api_Applied)) → (S_snapshot_reader) → Option (Int ⊕ ((List S_api_Applied) × S_snapshot_reader))) : Nat → (List S_api_Applied) → S_snapshot_reader → Option (Int ⊕ ((List S_api_Applied) × S_snapshot_reader))
  | 0, out_5, r_7 =>
  (k out_5 r_7)
  | rest + 1, out_5, r_7 =>
  (bindX (lf_Psnapshot_reader_applied_s1 r_7) fun r_11 =>
  ((appO 112 out_5 [r_11.1]).bind fun l_12 =>
  (lf_snapshot_take_s12_L0 k rest l_12 r_11.2)))
noncomputable def lf_snapshot_take_s12 (most_a1 : Int) (c_0 : S_snapshot_reader) : Option (Int ⊕ ((List S_api_Applied) × S_snapshot_reader)) :=
  (bindX (lf_Psnapshot_reader_number_s1 0 most_a1 c_0) fun r_3 =>
  (lf_snapshot_take_s12_L0 (fun out_9 r_10 =>
  some (.inr (out_9, r_10))) (r_3.1 - 0 : Int).toNat [] r_3.2))

set_option maxHeartbeats 1000000 in
theorem lg_snapshot_take_s12 (most_a1 : Int) (c_0 : S_snapshot_reader) (b_o0 : Nat) (res : Int ⊕ ((List S_api_Applied) × S_snapshot_reader)) (hr : lf_snapshot_take_s12 most_a1 c_0 = some res) : SpecX Tryz.prog 114 [.ref b_o0 0 [], .int .i64 most_a1, .clo (.func 115) [.ref b_o0 0 []] []] [.cell b_o0 (enc_S_snapshot_reader c_0)] (fun d σ => ∃ r : (List S_api_Applied) × S_snapshot_reader, res = .inr r ∧ d = .lst (r.1.map enc_S_api_Applied) ∧ σ = [.cell b_o0 (enc_S_snapshot_reader r.2)]) (fun d => ∃ c, res = .inl c ∧ d = .ifc 191 (.agg [.int .i64 c])) := by
  unfold lf_snapshot_take_s12 at hr
  refine spec_envX [(0, .ref b_o0 0 []), (1, .int .i64 most_a1), (2, .clo (.func 115) [.ref b_o0 0 []] [])] Tryz.func114 rfl rfl fun K hK hX => ?_
  refine g_seq ?_
  refine g_run (by kernel_rfl) [(0, .w)] rfl ?_
  refine r_w rfl rfl rfl (s_nilOwn 148 6 (.inl rfl)) ?_
  rintro _ _ ⟨u6_0, rfl, rfl⟩
  refine r_end ?_
  refine g_seq ?_
  refine g_run (by kernel_rfl) [(0, .w)] rfl ?_
  refine r_w rfl rfl rfl (s_nilOwn 148 6 (.inl rfl)) ?_
  rintro _ _ ⟨u7_1, rfl, rfl⟩
  refine r_end ?_
  refine g_seq ?_
  refine g_seq ?_
  refine g_run (by kernel_rfl) [(0, .d), (1, .d), (2, .w), (3, .d)] rfl ?_
  refine r_d rfl rfl rfl (s_move rfl rfl) ?_
  refine r_d rfl rfl rfl (s_move rfl rfl) ?_
  rcases bindXS hr with ⟨c_r_3, hr_3, rfl⟩ | ⟨r_3, hr_3, hr⟩
  ·
   refine r_die rfl rfl (s_callX _ rfl cl_Psnapshot_reader_number (.cons rfl (Wk.refl _) (.cons rfl (Wk.refl _) (.cons rfl (Wk.refl _) .nil))) (by exact (pf2 _ _ _ _)) (specX_inl (lg_Psnapshot_reader_number_s1 _ _ _ _ _ hr_3))) (hX _ ⟨_, rfl, rfl⟩)
  ·
   refine r_w rfl rfl rfl (s_call _ rfl cl_Psnapshot_reader_number (.cons rfl (Wk.refl _) (.cons rfl (Wk.refl _) (.cons rfl (Wk.refl _) .nil))) (by exact (pf2 _ _ _ _)) (specX_inr (lg_Psnapshot_reader_number_s1 _ _ _ _ _ hr_3))) ?_
   rintro _ _ ⟨_, ⟨rfl, rfl⟩, rfl⟩
   refine r_st ((.cell b_o0 (enc_S_snapshot_reader r_3.2)) :: _) rfl ?_
   refine r_d rfl rfl rfl (s_move rfl rfl) ?_
   refine r_end ?_
   obtain ⟨kk0, hkk0, hr⟩ := exK (fun k => lf_snapshot_take_s12_L0 k (r_3.1 - 0 : Int).toNat [] r_3.2) hr
   refine g_int 10 rfl fun hla0 => ?_
   refine g_blockJ (fun env σ => ∃ (out_9 : (List S_api_Applied)) (r_10 : S_snapshot_reader) (u_8 : Value), env = [(7, .own u_8 (out_9.map enc_S_api_Applied))] ∧ σ = [.row u_8 out_9.length 148 6, .cell b_o0 (enc_S_snapshot_reader r_10)] ∧ kk0 out_9 r_10 = some res) ?_ (fun HK0 => ?_)
   ·
    rintro _ _ ⟨out_9, r_10, u_8, rfl, rfl, hr⟩
    rw [hkk0] at hr
    refine g_seq ?_
    refine g_run (by kernel_rfl) [(0, .d), (1, .d)] rfl ?_
    refine r_d rfl rfl rfl (s_move rfl rfl) ?_
    refine r_d rfl rfl rfl (s_assign rfl rfl) ?_
    refine r_end ?_
    refine g_perm [_] _ (pf1 _ _ _) ?_
    obtain rfl := Option.some.inj hr
    refine g_ret Tryz.func114 _ (.cons (resTmp rfl (Wk.own _ _)) .nil) ?_
    exact ⟨_, rfl, rfl, rfl⟩
   ·
    refine g_sub [(2, .clo (.func 115) [.ref b_o0 0 []] []), (10, .int .i64 r_3.1), (7, .own u7_1 ([].map enc_S_api_Applied)), (11, .int .i64 0)] (Sub.cons' rfl (Sub.cons' rfl (Sub.cons' rfl (Sub.cons' rfl (Sub.nil _))))) ?_
    refine g_perm [_, _] _ ((pf1 _ _ _).trans (pf1 _ _ _)) ?_
    refine g_loop (fun n env σ => ∃ (out_5 : (List S_api_Applied)) (t11_6 : Int) (r_7 : S_snapshot_reader) (u_4 : Value) (m0 : Nat), (m0 = n) ∧ (env = [(2, .clo (.func 115) [.ref b_o0 0 []] []), (10, .int .i64 r_3.1), (7, .own u_4 (out_5.map enc_S_api_Applied)), (11, .int .i64 t11_6)]) ∧ (σ = [.cell b_o0 (enc_S_snapshot_reader r_7), .row u_4 out_5.length 148 6]) ∧ (m0 = (r_3.1 - t11_6 : Int).toNat) ∧ (lf_snapshot_take_s12_L0 kk0 m0 out_5 r_7 = some res)) _ ⟨[], 0, r_3.2, u7_1, _, rfl, rfl, rfl, rfl, hr⟩ ?_
    rintro n _ _ ⟨out_5, t11_6, r_7, u_4, m0, rfl, rfl, rfl, hi0, hr⟩ IH0
    refine g_int 11 rfl fun hb0 => ?_
    rcases cntStep t11_6 r_3.1 m0 hi0 with ⟨hm0, ht0⟩ | ⟨m0', hm0, ht0, hi0', hlt0⟩
    ·
     rw [hm0, lf_snapshot_take_s12_L0] at hr
     refine g_seq ?_
     refine g_run (by kernel_rfl) [(0, .d)] rfl ?_
     refine r_d rfl rfl rfl (s_cmp rfl rfl rfl rfl) ?_
     refine r_end ?_
     refine g_seq ?_
     refine g_known 12 false rfl ht0 ?_
     refine g_condF rfl ?_
     refine g_exit rfl ?_
     refine g_sub [(7, .own u_4 (out_5.map enc_S_api_Applied))] (Sub.cons' rfl (Sub.nil _)) ?_
     refine g_perm [_, _] _ ((pf0 _).trans (pf1 _ _ _)) ?_
     exact HK0 _ _ ⟨out_5, r_7, u_4, rfl, rfl, hr⟩
    ·
     rw [hm0, lf_snapshot_take_s12_L0] at hr
     refine g_seq ?_
     refine g_run (by kernel_rfl) [(0, .d)] rfl ?_
     refine r_d rfl rfl rfl (s_cmp rfl rfl rfl rfl) ?_
     refine r_end ?_
     refine g_seq ?_
     refine g_int 10 rfl fun hbN10 => ?_
     refine g_known 12 true rfl ht0 ?_
     refine g_condT rfl ?_
     refine g_skip ?_
     refine g_seq ?_
     refine g_block ?_
     refine g_run (by kernel_rfl) [(0, .d), (1, .d), (2, .w), (3, .d), (4, .w), (5, .d)] rfl ?_
     refine r_d rfl rfl rfl (s_move rfl rfl) ?_
     refine r_d rfl rfl rfl (s_move rfl rfl) ?_
     rcases bindXS hr with ⟨c_r_11, hr_11, rfl⟩ | ⟨r_11, hr_11, hr⟩
     ·
      refine r_die rfl rfl (s_callVX _ rfl rfl cl_Psnapshot_reader_applied .nil rfl (by exact (pf0 _)) (specX_inl (lg_Psnapshot_reader_applied_s1 _ _ _ hr_11))) (hX _ ⟨_, rfl, rfl⟩)
     ·
      refine r_w rfl rfl rfl (s_callV _ rfl rfl cl_Psnapshot_reader_applied .nil rfl (by exact (pf0 _)) (specX_inr (lg_Psnapshot_reader_applied_s1 _ _ _ hr_11))) ?_
      rintro _ _ ⟨_, ⟨rfl, rfl⟩, rfl⟩
      refine r_st ((.cell b_o0 (enc_S_snapshot_reader r_11.2)) :: _) rfl ?_
      refine r_d rfl rfl rfl (m_lit (f := enc_S_api_Applied) [.tmp 15] [r_11.1] rfl el_L_api_Applied rfl rfl (by decide) (by decide) (.cons rfl (Wk.refl _) .nil) sz_S_api_Applied (fun _ => rfl)) ?_
      obtain ⟨l_12, hl_12, hr⟩ := bindS hr
      refine r_w rfl rfl rfl (m_appOwn (f := enc_S_api_Applied) out_5 [r_11.1] rfl el_L_api_Applied rfl rfl (asl rfl) (pf1 _ _ _) rfl sz_S_api_Applied hl_12) ?_
      rintro _ _ ⟨u17_12, rfl, rfl⟩
      refine r_d rfl rfl rfl (s_assign rfl rfl) ?_
      refine r_end ?_
      refine g_inBlock ?_
      refine g_run (by kernel_rfl) [(0, .d), (1, .d)] rfl ?_
      refine r_d rfl rfl rfl (s_ar (r := t11_6 + 1) rfl rfl rfl rfl (by omega)) ?_
      refine r_d rfl rfl rfl (s_move rfl rfl) ?_
      refine r_end ?_
      refine g_sub [(2, .clo (.func 115) [.ref b_o0 0 []] []), (10, .int .i64 r_3.1), (7, .own u17_12 (l_12.map enc_S_api_Applied)), (11, .int .i64 (t11_6 + 1))] (Sub.cons' rfl (Sub.cons' rfl (Sub.cons' rfl (Sub.cons' rfl (Sub.nil _))))) ?_
      refine g_perm [_, _] _ ((pf0 _).trans (pf1 _ _ _)) ?_
      exact IH0 _ _ _ (by omega) ⟨l_12, (t11_6 + 1), r_11.2, u17_12, _, rfl, rfl, rfl, hi0', hr⟩

noncomputable def lf_snapshot_TakeMemory_1_s1 (fuel : Nat) (c_0 : S_snapshot_reader) : Option (Int ⊕ (S_api_Memory × S_snapshot_reader)) :=
  (bindX (lf_snapshot_take_s11 fuel 5000 c_0) fun r_2 =>
  (bindX (lf_snapshot_take_s11 fuel 5000 r_2.2) fun r_3 =>
  (bindX (lf_snapshot_take_s12 5000 r_3.2) fun r_4 =>
  (bindX (lf_Psnapshot_reader_number_s1 0 2147483648 r_4.2) fun r_5 =>
  (bindX (lf_Psnapshot_reader_number_s1 0 64 r_5.2) fun r_6 =>
  some (.inr ((⟨r_2.1, r_3.1, r_4.1, r_5.1, r_6.1⟩ : S_api_Memory), r_6.2)))))))

set_option maxHeartbeats 1000000 in
theorem lg_snapshot_TakeMemory_1_s1 (fuel : Nat) (c_0 : S_snapshot_reader) (b_o0 : Nat) (res : Int ⊕ (S_api_Memory × S_snapshot_reader)) (hr : lf_snapshot_TakeMemory_1_s1 fuel c_0 = some res) : SpecX Tryz.prog 111 [.ref b_o0 0 []] [.cell b_o0 (enc_S_snapshot_reader c_0)] (fun d σ => ∃ r : S_api_Memory × S_snapshot_reader, res = .inr r ∧ d = enc_S_api_Memory r.1 ∧ σ = [.cell b_o0 (enc_S_snapshot_reader r.2)]) (fun d => ∃ c, res = .inl c ∧ d = .ifc 191 (.agg [.int .i64 c])) := by
  unfold lf_snapshot_TakeMemory_1_s1 at hr
  refine spec_envX [(0, .ref b_o0 0 [])] Tryz.func111 rfl rfl fun K hK hX => ?_
  refine g_seq ?_
  refine g_run (by kernel_rfl) [(0, .w)] rfl ?_
  refine r_w rfl rfl rfl (s_alloc rfl zv_api_Memory) ?_
  rintro _ _ ⟨b2_0, rfl, rfl⟩
  refine r_end ?_
  refine g_seq ?_
  refine g_run (by kernel_rfl) [(0, .d), (1, .d), (2, .d), (3, .w), (4, .d), (5, .w)] rfl ?_
  refine r_d rfl rfl rfl (s_move rfl rfl) ?_
  refine r_d rfl rfl rfl (s_move rfl rfl) ?_
  refine r_d rfl rfl rfl (s_makeFunc rfl rfl rfl) ?_
  rcases bindXS hr with ⟨c_r_2, hr_2, rfl⟩ | ⟨r_2, hr_2, hr⟩
  ·
   refine r_die rfl rfl (s_callX _ rfl cl_snapshot_take_api_Fact (.cons rfl (Wk.refl _) (.cons rfl (Wk.refl _) (.cons rfl (Wk.refl _) .nil))) (by exact (pf1 _ _ _)) (specX_inl (lg_snapshot_take_s11 fuel _ _ _ _ hr_2))) (hX _ ⟨_, rfl, rfl⟩)
  ·
   refine r_w rfl rfl rfl (s_call _ rfl cl_snapshot_take_api_Fact (.cons rfl (Wk.refl _) (.cons rfl (Wk.refl _) (.cons rfl (Wk.refl _) .nil))) (by exact (pf1 _ _ _)) (specX_inr (lg_snapshot_take_s11 fuel _ _ _ _ hr_2))) ?_
   rintro _ _ ⟨_, ⟨rfl, rfl⟩, rfl⟩
   refine r_st ((.cell b_o0 (enc_S_snapshot_reader r_2.2)) :: _) rfl ?_
   refine r_d rfl rfl rfl (s_fieldRef rfl fl_api_Memory_0 rfl) ?_
   refine r_w01 rfl rfl rfl (t_store _ rfl rfl rfl (Wk.refl _) (pf1 _ _ _) rfl rfl (by exact ty_L_api_Fact) rfl rfl rfl) ?_
   refine r_end ?_
   refine g_seq ?_
   refine g_run (by kernel_rfl) [(0, .d), (1, .d), (2, .d), (3, .w), (4, .d), (5, .w)] rfl ?_
   refine r_d rfl rfl rfl (s_move rfl rfl) ?_
   refine r_d rfl rfl rfl (s_move rfl rfl) ?_
   refine r_d rfl rfl rfl (s_makeFunc rfl rfl rfl) ?_
   rcases bindXS hr with ⟨c_r_3, hr_3, rfl⟩ | ⟨r_3, hr_3, hr⟩
   ·
    refine r_die rfl rfl (s_callX _ rfl cl_snapshot_take_api_Fact (.cons rfl (Wk.refl _) (.cons rfl (Wk.refl _) (.cons rfl (Wk.refl _) .nil))) (by exact (pf1 _ _ _)) (specX_inl (lg_snapshot_take_s11 fuel _ _ _ _ hr_3))) (hX _ ⟨_, rfl, rfl⟩)
   ·
    refine r_w rfl rfl rfl (s_call _ rfl cl_snapshot_take_api_Fact (.cons rfl (Wk.refl _) (.cons rfl (Wk.refl _) (.cons rfl (Wk.refl _) .nil))) (by exact (pf1 _ _ _)) (specX_inr (lg_snapshot_take_s11 fuel _ _ _ _ hr_3))) ?_
    rintro _ _ ⟨_, ⟨rfl, rfl⟩, rfl⟩
    refine r_st ((.cell b_o0 (enc_S_snapshot_reader r_3.2)) :: _) rfl ?_
    refine r_d rfl rfl rfl (s_fieldRef rfl fl_api_Memory_1 rfl) ?_
    refine r_w01 rfl rfl rfl (t_store _ rfl rfl rfl (Wk.refl _) (pf1 _ _ _) rfl rfl (by exact ty_L_api_Fact) rfl rfl rfl) ?_
    refine r_end ?_
    refine g_seq ?_
    refine g_run (by kernel_rfl) [(0, .d), (1, .d), (2, .d), (3, .w), (4, .d), (5, .w)] rfl ?_
    refine r_d rfl rfl rfl (s_move rfl rfl) ?_
    refine r_d rfl rfl rfl (s_move rfl rfl) ?_
    refine r_d rfl rfl rfl (s_makeFunc rfl rfl rfl) ?_
    rcases bindXS hr with ⟨c_r_4, hr_4, rfl⟩ | ⟨r_4, hr_4, hr⟩
    ·
     refine r_die rfl rfl (s_callX _ rfl cl_snapshot_take_api_Applied (.cons rfl (Wk.refl _) (.cons rfl (Wk.refl _) (.cons rfl (Wk.refl _) .nil))) (by exact (pf1 _ _ _)) (specX_inl (lg_snapshot_take_s12 _ _ _ _ hr_4))) (hX _ ⟨_, rfl, rfl⟩)
    ·
     refine r_w rfl rfl rfl (s_call _ rfl cl_snapshot_take_api_Applied (.cons rfl (Wk.refl _) (.cons rfl (Wk.refl _) (.cons rfl (Wk.refl _) .nil))) (by exact (pf1 _ _ _)) (specX_inr (lg_snapshot_take_s12 _ _ _ _ hr_4))) ?_
     rintro _ _ ⟨_, ⟨rfl, rfl⟩, rfl⟩
     refine r_st ((.cell b_o0 (enc_S_snapshot_reader r_4.2)) :: _) rfl ?_
     refine r_d rfl rfl rfl (s_fieldRef rfl fl_api_Memory_2 rfl) ?_
     refine r_w01 rfl rfl rfl (t_store _ rfl rfl rfl (Wk.refl _) (pf1 _ _ _) rfl rfl (by exact ty_L_api_Applied) rfl rfl rfl) ?_
     refine r_end ?_
     refine g_seq ?_
     refine g_run (by kernel_rfl) [(0, .d), (1, .w), (2, .d), (3, .w)] rfl ?_
     refine r_d rfl rfl rfl (s_move rfl rfl) ?_
     rcases bindXS hr with ⟨c_r_5, hr_5, rfl⟩ | ⟨r_5, hr_5, hr⟩
     ·
      refine r_die rfl rfl (s_callX _ rfl cl_Psnapshot_reader_number (.cons rfl (Wk.refl _) (.cons rfl (Wk.refl _) (.cons rfl (Wk.refl _) .nil))) (by exact (pf1 _ _ _)) (specX_inl (lg_Psnapshot_reader_number_s1 _ _ _ _ _ hr_5))) (hX _ ⟨_, rfl, rfl⟩)
     ·
      refine r_w rfl rfl rfl (s_call _ rfl cl_Psnapshot_reader_number (.cons rfl (Wk.refl _) (.cons rfl (Wk.refl _) (.cons rfl (Wk.refl _) .nil))) (by exact (pf1 _ _ _)) (specX_inr (lg_Psnapshot_reader_number_s1 _ _ _ _ _ hr_5))) ?_
      rintro _ _ ⟨_, ⟨rfl, rfl⟩, rfl⟩
      refine r_st ((.cell b_o0 (enc_S_snapshot_reader r_5.2)) :: _) rfl ?_
      refine r_d rfl rfl rfl (s_fieldRef rfl fl_api_Memory_3 rfl) ?_
      refine r_w01 rfl rfl rfl (t_store _ rfl rfl rfl (Wk.refl _) (pf1 _ _ _) rfl rfl (by exact ty_int) rfl rfl rfl) ?_
      refine r_end ?_
      refine g_seq ?_
      refine g_run (by kernel_rfl) [(0, .d), (1, .w), (2, .d), (3, .w)] rfl ?_
      refine r_d rfl rfl rfl (s_move rfl rfl) ?_
      rcases bindXS hr with ⟨c_r_6, hr_6, rfl⟩ | ⟨r_6, hr_6, hr⟩
      ·
       refine r_die rfl rfl (s_callX _ rfl cl_Psnapshot_reader_number (.cons rfl (Wk.refl _) (.cons rfl (Wk.refl _) (.cons rfl (Wk.refl _) .nil))) (by exact (pf1 _ _ _)) (specX_inl (lg_Psnapshot_reader_number_s1 _ _ _ _ _ hr_6))) (hX _ ⟨_, rfl, rfl⟩)
      ·
       refine r_w rfl rfl rfl (s_call _ rfl cl_Psnapshot_reader_number (.cons rfl (Wk.refl _) (.cons rfl (Wk.refl _) (.cons rfl (Wk.refl _) .nil))) (by exact (pf1 _ _ _)) (specX_inr (lg_Psnapshot_reader_number_s1 _ _ _ _ _ hr_6))) ?_
       rintro _ _ ⟨_, ⟨rfl, rfl⟩, rfl⟩
       refine r_st ((.cell b_o0 (enc_S_snapshot_reader r_6.2)) :: _) rfl ?_
       refine r_d rfl rfl rfl (s_fieldRef rfl fl_api_Memory_4 rfl) ?_
       refine r_w01 rfl rfl rfl (t_store _ rfl rfl rfl (Wk.refl _) (pf1 _ _ _) rfl rfl (by exact ty_int) rfl rfl rfl) ?_
       refine r_end ?_
       refine g_seq ?_
       refine g_run (by kernel_rfl) [(0, .r), (1, .w)] rfl ?_
       refine r_r rfl rfl rfl (t_loadRef rfl rfl (.head _) rfl rfl (by exact ty_api_Memory) rfl) ?_
       refine r_w01 rfl rfl rfl (t_store0 _ rfl rfl rfl (Wk.refl _) (pf0 _) (by exact ty_api_Memory) rfl rfl rfl) ?_
       refine r_end ?_
       refine g_freeze 2 b2_0 rfl (pf0 _) ?_
       obtain rfl := Option.some.inj hr
       refine g_ret Tryz.func111 _ (.cons (resPtr rfl (by exact ty_api_Memory) rfl (Wk.refl _)) .nil) ?_
       exact ⟨_, rfl, rfl, rfl⟩

end Go.Proofs.YtdoljfkjdfaakaaGreat


namespace Go.Proofs.YtdoljfkjdfaakaaGreat
set_option maxRecDepth 100000
open Go.RowKit

/-! ### writers -/
theorem catO_assoc (r s t : Option (List Int)) : catO (catO r s) t = catO r (catO s t) := by cases r <;> cases s <;> cases t <;> simp [catO]
section
variable {W α β : Type} {mk : List Int → Bool → W} {f g : W → Option W} {N M : Nat} {r s : Option (List Int)}
/-- .. as long as the value is sound. -/
def runR (bad : W → Bool) (put : α → W → Option W) : List α → W → Option W
  | [], c => some c
  | x :: l, c => bif !bad c then (put x c).bind (runR bad put l) else some c
theorem wr_runR {bad : W → Bool} (hbad : ∀ b x, bad (mk b x) = x) {put : α → W → Option W} {e : α → Option (List Int)} {n : Nat} : ∀ (l : List α), (∀ x ∈ l, Wr mk (put x) n (e x)) → Wr mk (runR bad put l) (l.length * n) (eCat e l)
  | [], _ => (Wr.pure : Wr mk some 0 (some [])).le (Nat.zero_le _)
  | x :: l, h => fun b bd hb => by
    cases bd with
    | false =>
      have := ((h x (by simp)).bind (wr_runR hbad l fun y hy => h y (by simp [hy]))).le (M := (x :: l).length * n) (by simp only [List.length_cons, Nat.add_mul]; omega) b false hb
      unfold eCat
      simpa only [runR, hbad, Bool.not_false, cond_true] using this
    | true => exact ⟨b, true, by simp [runR, hbad], by omega, id, fun h => by cases h⟩
end
end Go.Proofs.YtdoljfkjdfaakaaGreat


namespace Go.Proofs.YtdoljfkjdfaakaaGreat
set_option maxRecDepth 100000
open Go.RowKit

/-! ### The program -/
theorem len_Memory {fuel : Nat} (hfu : 21 ≤ fuel) (m : S_api_Memory) (h1 : ∀ x ∈ m.f0_Facts, wtL x.f1_Atom.ts ≤ 1000000000) (h2 : ∀ x ∈ m.f1_Past, wtL x.f1_Atom.ts ≤ 1000000000) : ∀ e, eMemory m = some e → e.length ≤ 999999999 := by
  have h := ((wr_num 3 3 3).bind ((wr_list11 hfu m.f0_Facts h1).bind ((wr_list11 hfu m.f1_Past h2).bind ((wr_list12 m.f2_Log).bind ((wr_num m.f3_Next 0 2147483648).bind (wr_num m.f4_Given 0 64))))))
  exact len_of (r := eMemory m) h (by omega)
end Go.Proofs.YtdoljfkjdfaakaaGreat


namespace Go.Proofs.YtdoljfkjdfaakaaGreat
set_option maxRecDepth 100000
open Go.RowKit


/-! ### The reference -/
theorem wrR_num (n lo hi : Int) : Wr S_constraintref52_writer.mk (lf_Pconstraintref52_writer_num_s1 n lo hi) 10 (eNum lo hi n) := fun b bad hb => by
  have hl := encN_len n
  have hc : x_cPutInt b n = some (b ++ encN n) := if_pos (by omega)
  have hl2 : (b ++ encN n).length ≤ b.length + 10 := by
    rw [List.length_append]
    omega
  unfold lf_Pconstraintref52_writer_num_s1
  simp only [hc, Option.bind_some]
  cases bad with
  | true => exact ⟨b ++ encN n, true, by simp only [cond_true], hl2, id, fun h => by cases h⟩
  | false =>
    simp only [cond_false]
    by_cases h1 : n < lo
    · exact ⟨b ++ encN n, true, by rw [decide_eq_true h1, cond_true], hl2, fun _ => rfl, fun _ => okW_num (by simp; omega)⟩
    · exact ⟨b ++ encN n, decide (n > hi), by rw [decide_eq_false h1, cond_false], hl2, fun h => (by cases h), fun _ => okW_num (by simp; omega)⟩
theorem wrR_text (s : ByteArray) : Wr S_constraintref52_writer.mk (lf_Pconstraintref52_writer_text_s1 s) 50 (eText s) := fun b bad hb => by
  have hl := text_len s
  unfold lf_Pconstraintref52_writer_text_s1
  by_cases h : (s.size : Int) > 40
  · exact ⟨b, true, by rw [decide_eq_true h, cond_true], by omega, fun _ => rfl, fun _ => okW_text (by simp; omega) fun h => by omega⟩
  · have hc : x_cPutText b s = some (b ++ (encN s.size ++ toY s.data.toList)) := if_pos ⟨by omega, by omega⟩
    refine ⟨_, bad, by rw [decide_eq_false h, cond_false, hc]; rfl, by rw [List.length_append]; omega, id, fun h => okW_text (by rw [h]; simp; omega) fun _ => rfl⟩
theorem wrR_flag (x : Bool) : Wr S_constraintref52_writer.mk (lf_Pconstraintref52_writer_flag_s1 x) 1 (eBool x) := fun b bad hb => by
  have hc : x_cPutBool b x = some (b ++ [bif x then 1 else 0]) := if_pos (by omega)
  unfold lf_Pconstraintref52_writer_flag_s1
  simp only [hc, Option.bind_some]
  exact ⟨_, bad, rfl, by simp, id, fun h => ⟨h, rfl⟩⟩
section
variable {W α : Type} {mk : List Int → Bool → W} {bad : W → Bool} {put : α → W → Option W}
theorem runR_bad (l : List α) (c : W) : runR bad put l c = bif bad c then some c else runR bad put l c := by
  cases h : bad c with
  | false => rfl
  | true =>
    cases l with
    | nil => rfl
    | cons x l => simp [runR, h]
theorem wr_listR (hbad : ∀ b x, bad (mk b x) = x) {num : W → Option W} {most : Int} {e : α → Option (List Int)} {l : List α} {n m : Nat} (hm : (l.length : Int) ≤ most → l.length ≤ m) (hn : Wr mk num 10 (eNum 0 most (l.length : Int))) (hp : ∀ x ∈ l, Wr mk (put x) n (e x)) : Wr mk (fun c => (num c).bind (runR bad put l)) (10 + m * n) (eList most e l) := by
  refine (wr_list hbad hm hn (wr_runR hbad l hp)).congr fun c => ?_
  cases num c with
  | none => rfl
  | some r => exact (runR_bad l r).symm
end
mutual
theorem wt_form : ∀ t : T, formT t = true → wt t = sizeT t
  | .mk k i s ar, h => by
    simp only [formT] at h
    simp only [wt, sizeT]
    split at h
    · rename_i h0
      simp only [decide_eq_true_eq] at h
      have : ar = [] := List.eq_nil_of_length_eq_zero h.2.2.2
      subst this h0
      rfl
    · split at h
      · rename_i h1
        simp only [decide_eq_true_eq] at h
        have : ar = [] := List.eq_nil_of_length_eq_zero h.2.2.2
        subst this h1
        rfl
      · split at h
        · rename_i h2
          rw [Bool.and_eq_true] at h
          rw [if_pos h2, wtL_form ar h.2]
        · cases h
theorem wtL_form : ∀ l : List T, formL l = true → wtL l = sizeL l
  | [], _ => rfl
  | t :: l, h => by
    simp only [formL, Bool.and_eq_true] at h
    simp only [wtL, sizeL, wt_form t h.1, wtL_form l h.2]
end
theorem wrR_term1 {rec : List T → S_constraintref52_writer → Option S_constraintref52_writer} (t : T) (hw : rightT t = true) (hr : t.k = 2 → Wr S_constraintref52_writer.mk (rec t.ar) (10 + 70 * sizeL t.ar) (some (encN t.ar.length ++ bL t.ar))) : Wr S_constraintref52_writer.mk (lfo_Pconstraintref52_writer_term_s1 rec t) (70 * sizeT t) (some (bT t)) := by
  obtain ⟨hf, hs, hd⟩ := rightT_in hw
  have hp := size_pos t
  have hx : x_rightT t = some true := by rw [x_rightT_eq _ (by rw [wt_form t hf]; omega), hw]
  rcases form_k hf with k | k | k
  · rw [formT_0 k, decide_eq_true_eq] at hf
    refine (((wrR_num t.k 0 2).bind (wrR_num t.i (-2147483648) 2147483648).last).le (M := 70 * sizeT t) (by omega)).eq (s := some (bT t)) ?_ |>.congr fun c => ?_
    · rw [eNum_in (by omega) (by omega), eNum_in (by omega) (by omega), bT_n (by omega)]
      rfl
    · unfold lfo_Pconstraintref52_writer_term_s1
      simp [k, hx]
  · rw [formT_1 k, decide_eq_true_eq] at hf
    refine (((wrR_num t.k 0 2).bind (wrR_num t.i (-2147483648) 2147483648).last).le (M := 70 * sizeT t) (by omega)).eq (s := some (bT t)) ?_ |>.congr fun c => ?_
    · rw [eNum_in (by omega) (by omega), eNum_in (by omega) (by omega), bT_n (by omega)]
      rfl
    · unfold lfo_Pconstraintref52_writer_term_s1
      simp [k, hx]
  · obtain ⟨f1, f2, f3, f4⟩ := form_2 hf k
    have hz := (depth_2 k).2
    refine (((wrR_num t.k 0 2).bind ((wrR_text t.s).bind (hr k).last)).le (M := 70 * sizeT t) (by omega)).eq (s := some (bT t)) ?_ |>.congr fun c => ?_
    · rw [eNum_in (by omega) (by omega), eText_in f2, bT_2 k]
      rfl
    · unfold lfo_Pconstraintref52_writer_term_s1
      simp [k, hx]
theorem loopR_Pconstraintref52_writer_terms_s1_L0 (k : S_constraintref52_writer → Option S_constraintref52_writer) (rec : List T → S_constraintref52_writer → Option S_constraintref52_writer) : ∀ l c, lf_Pconstraintref52_writer_terms_s1_L0 k rec l c = (runR S_constraintref52_writer.f1_bad (lfo_Pconstraintref52_writer_term_s1 rec) l c).bind k
  | [], c => rfl
  | x :: l, c => by
    have ih := loopR_Pconstraintref52_writer_terms_s1_L0 k rec l
    rw [lf_Pconstraintref52_writer_terms_s1_L0, runR]
    cases hb : (!c.f1_bad) with
    | false => rfl
    | true => simp only [cond_true, Option.bind_assoc, ih]
theorem runsR_T {rec : List T → S_constraintref52_writer → Option S_constraintref52_writer} : ∀ (l : List T), (∀ t ∈ l, Wr S_constraintref52_writer.mk (lfo_Pconstraintref52_writer_term_s1 rec t) (70 * sizeT t) (some (bT t))) → Wr S_constraintref52_writer.mk (runR S_constraintref52_writer.f1_bad (lfo_Pconstraintref52_writer_term_s1 rec) l) (70 * sizeL l) (some (bL l))
  | [], _ => Wr.pure
  | x :: l, h => fun b bd hb => by
    cases bd with
    | false =>
      have := (((h x (by simp)).bind (runsR_T l fun y hy => h y (by simp [hy]))).eq (catO_in _ _)).le (M := 70 * sizeL (x :: l)) (by simp only [sizeL]; omega) b false hb
      obtain ⟨b', bad', e1, l1, m1, o1⟩ := this
      refine ⟨b', bad', ?_, l1, m1, fun _ => o1 rfl⟩
      simp only [runR, Bool.not_false, cond_true]
      exact e1
    | true => exact ⟨b, true, by simp [runR], by omega, id, fun h => by cases h⟩
theorem sizeL_mem {t : T} : ∀ {l : List T}, t ∈ l → sizeT t ≤ sizeL l
  | x :: l, h => by
    simp only [sizeL]
    rcases List.mem_cons.1 h with rfl | h
    · omega
    · have := sizeL_mem h
      omega
theorem rightT_of {t : T} (h1 : formT t = true) (h2 : sizeT t ≤ 200) (h3 : depthT t ≤ 20) : rightT t = true := by
  unfold rightT
  simp [h1, h2, h3]
theorem wrR_args : ∀ (fuel : Nat) (l : List T), formL l = true → l.length ≤ 6 → sizeL l ≤ 200 → depthL l ≤ 20 → depthL l < fuel → Wr S_constraintref52_writer.mk (lf_Pconstraintref52_writer_terms_s1 fuel l) (10 + 70 * sizeL l) (some (encN l.length ++ bL l))
  | 0, l, _, _, _, _, h => by omega
  | fuel + 1, l, hf, hl, hs, hd20, hd => by
    have hrun := runsR_T (rec := lf_Pconstraintref52_writer_terms_s1 fuel) l fun t ht => by
      have hft := formL_mem hf ht
      have h1 := depthL_mem ht
      have h2 := sizeL_mem ht
      refine wrR_term1 t (rightT_of hft (by omega) (by omega)) fun k => ?_
      have h3 := (depth_2 k).1
      have h4 := (depth_2 k).2
      exact wrR_args fuel t.ar (form_2 hft k).2.2.2 (form_2 hft k).2.2.1 (by omega) (by omega) (by omega)
    have := ((wrR_num (l.length : Int) 0 6).bind hrun).eq (s := some (encN l.length ++ bL l)) (by rw [eNum_in (by omega) (by omega)]; rfl)
    refine this.congr fun c => ?_
    rw [lf_Pconstraintref52_writer_terms_s1]
    simp only [loopR_Pconstraintref52_writer_terms_s1_L0, bind_some']
theorem wrR_atom {fuel : Nat} (hfu : 21 ≤ fuel) (a : At) (ha : wtL a.ts ≤ 1000000000) : Wr S_constraintref52_writer.mk (lf_Pconstraintref52_writer_atom_s1 fuel a) 14060 (eAtom a) := by
  unfold eAtom
  by_cases hr : rightA a = true
  · rw [if_pos hr]
    obtain ⟨r1, r2, r3⟩ := rightA_in hr
    obtain ⟨h1, h2, h3⟩ := rightL_in r3
    refine ((((wrR_text a.n).bind (wrR_args fuel a.ts h1 r2 h2 h3 (by omega)).last).le (M := 14060) (by omega)).eq (s := some (bArgs a.n a.ts)) (by rw [eText_in r1]; rfl)).congr fun c => ?_
    unfold lf_Pconstraintref52_writer_atom_s1
    simp only [x_rightA_eq _ ha, hr, Option.bind_some]
    rfl
  · rw [if_neg hr]
    intro b bad hb
    unfold lf_Pconstraintref52_writer_atom_s1
    simp only [x_rightA_eq _ ha, Bool.not_eq_true _ |>.mp hr, Option.bind_some]
    exact ⟨b, true, rfl, by omega, fun _ => rfl, fun _ => rfl⟩
theorem loopR_Pconstraintref52_writer_nums_s1_L0 (k : S_constraintref52_writer → Option S_constraintref52_writer) (h : Int) : ∀ l c, lf_Pconstraintref52_writer_nums_s1_L0 k h l c = (runR S_constraintref52_writer.f1_bad (fun x => lf_Pconstraintref52_writer_num_s1 x 0 h) l c).bind k
  | [], c => rfl
  | x :: l, c => by
    have ih := loopR_Pconstraintref52_writer_nums_s1_L0 k h l
    rw [lf_Pconstraintref52_writer_nums_s1_L0, runR]
    cases hb : (!c.f1_bad) with
    | false => rfl
    | true => simp only [cond_true, Option.bind_assoc, ih]
theorem wrR_nums (l : List Int) (most hi : Int) {m : Nat} (hm : most ≤ (m : Int)) : Wr S_constraintref52_writer.mk (lf_Pconstraintref52_writer_nums_s1 l most hi) (10 + m * 10) (eNums most hi l) := by
  refine (wr_listR (bad := S_constraintref52_writer.f1_bad) (fun _ _ => rfl) (fun h => by omega) (wrR_num _ 0 most) fun x hx => wrR_num x 0 hi).congr fun c => ?_
  unfold lf_Pconstraintref52_writer_nums_s1
  simp only [loopR_Pconstraintref52_writer_nums_s1_L0, bind_some']
noncomputable def putFact (fuel : Nat) (x : S_api_Fact) (c : S_constraintref52_writer) : Option S_constraintref52_writer := (lf_Pconstraintref52_writer_num_s1 x.f0_ID 0 2147483648 c).bind fun r => (lf_Pconstraintref52_writer_atom_s1 fuel x.f1_Atom r).bind fun r => lf_Pconstraintref52_writer_nums_s1 x.f2_Just 64 64 r
theorem wrR_fact {fuel : Nat} (hfu : 21 ≤ fuel) (x : S_api_Fact) (ha : wtL x.f1_Atom.ts ≤ 1000000000) : Wr S_constraintref52_writer.mk (putFact fuel x) 15000 (eFact x) := ((wrR_num x.f0_ID 0 2147483648).bind ((wrR_atom hfu x.f1_Atom ha).bind (wrR_nums x.f2_Just 64 64 (m := 64) (by omega)))).le (by omega)
noncomputable def putApplied (x : S_api_Applied) (c : S_constraintref52_writer) : Option S_constraintref52_writer := (lf_Pconstraintref52_writer_num_s1 x.f0_Rule 0 40 c).bind fun r => (lf_Pconstraintref52_writer_nums_s1 x.f1_Heads 4 2147483648 r).bind fun r => (lf_Pconstraintref52_writer_nums_s1 x.f2_Gone 4 2147483648 r).bind fun r => (lf_Pconstraintref52_writer_nums_s1 x.f3_Made 12 2147483648 r).bind fun r => (lf_Pconstraintref52_writer_flag_s1 x.f4_Failed r).bind fun r => lf_Pconstraintref52_writer_nums_s1 x.f5_Just 64 64 r
theorem wrR_applied (x : S_api_Applied) : Wr S_constraintref52_writer.mk (putApplied x) 1000 (eApplied x) := ((wrR_num x.f0_Rule 0 40).bind ((wrR_nums x.f1_Heads 4 2147483648 (m := 4) (by omega)).bind ((wrR_nums x.f2_Gone 4 2147483648 (m := 4) (by omega)).bind ((wrR_nums x.f3_Made 12 2147483648 (m := 12) (by omega)).bind ((wrR_flag x.f4_Failed).bind (wrR_nums x.f5_Just 64 64 (m := 64) (by omega))))))).le (by omega)
theorem loopR_Pconstraintref52_writer_facts_s1_L0 (k : S_constraintref52_writer → Option S_constraintref52_writer) (fuel : Nat) : ∀ l c, lf_Pconstraintref52_writer_facts_s1_L0 k fuel l c = (runR S_constraintref52_writer.f1_bad (putFact fuel) l c).bind k
  | [], c => rfl
  | x :: l, c => by
    have ih := loopR_Pconstraintref52_writer_facts_s1_L0 k fuel l
    rw [lf_Pconstraintref52_writer_facts_s1_L0, runR]
    cases hb : (!c.f1_bad) with
    | false => rfl
    | true => simp only [cond_true, Option.bind_assoc, ih, putFact]
theorem loopR_constraintref52_Memory_L0 (k : S_constraintref52_writer → Option (List Int)) : ∀ l c, lf_constraintref52_Memory_L0 k l c = (runR S_constraintref52_writer.f1_bad (putApplied) l c).bind k
  | [], c => rfl
  | x :: l, c => by
    have ih := loopR_constraintref52_Memory_L0 k l
    rw [lf_constraintref52_Memory_L0, runR]
    cases hb : (!c.f1_bad) with
    | false => rfl
    | true => simp only [cond_true, Option.bind_assoc, ih, putApplied]
theorem wrR_facts {fuel : Nat} (hfu : 21 ≤ fuel) (l : List S_api_Fact) (ha : ∀ x ∈ l, wtL x.f1_Atom.ts ≤ 1000000000) : Wr S_constraintref52_writer.mk (lf_Pconstraintref52_writer_facts_s1 fuel l) (10 + 5000 * 15000) (eList 5000 eFact l) := by
  refine (wr_listR (bad := S_constraintref52_writer.f1_bad) (fun _ _ => rfl) (fun h => by omega) (wrR_num _ 0 5000) fun x hx => wrR_fact hfu x (ha x hx)).congr fun c => ?_
  unfold lf_Pconstraintref52_writer_facts_s1
  simp only [loopR_Pconstraintref52_writer_facts_s1_L0, bind_some']
theorem out_ofR {f : S_constraintref52_writer → Option S_constraintref52_writer} {N : Nat} {r : Option (List Int)} (h : Wr S_constraintref52_writer.mk f N r) (hN : N ≤ 1000000000) : ((f ⟨[], false⟩).bind fun c => lf_Pconstraintref52_writer_bytes_s1 c) = some (r.getD []) := by
  obtain ⟨b1, bad1, e1, l1, m1, o1⟩ := h [] false (by simpa using hN)
  rw [e1, Option.bind_some]
  have o1 := o1 rfl
  unfold lf_Pconstraintref52_writer_bytes_s1
  cases r with
  | none =>
    have o1 : bad1 = true := o1
    subst o1
    rfl
  | some e =>
    obtain ⟨rfl, rfl⟩ := o1
    simp
theorem wrR_Memory {fuel : Nat} (hfu : 21 ≤ fuel) (m : S_api_Memory) (h1 : ∀ x ∈ m.f0_Facts, wtL x.f1_Atom.ts ≤ 1000000000) (h2 : ∀ x ∈ m.f1_Past, wtL x.f1_Atom.ts ≤ 1000000000) : lf_constraintref52_Memory fuel m = some ((eMemory m).getD []) := by
  have h := ((wrR_num 3 3 3).bind ((wrR_facts hfu m.f0_Facts h1).bind ((wrR_facts hfu m.f1_Past h2).bind ((wr_listR (bad := S_constraintref52_writer.f1_bad) (put := putApplied) (l := m.f2_Log) (m := 5000) (fun _ _ => rfl) (fun h => by omega) (wrR_num _ 0 5000) fun x hx => wrR_applied x).bind ((wrR_num m.f3_Next 0 2147483648).bind (wrR_num m.f4_Given 0 64))))))
  rw [← out_ofR (r := eMemory m) h (by omega)]
  unfold lf_constraintref52_Memory
  simp only [loopR_constraintref52_Memory_L0, Option.bind_assoc, bind_some']
end Go.Proofs.YtdoljfkjdfaakaaGreat


namespace Go.Proofs.YtdoljfkjdfaakaaGreat
set_option maxRecDepth 100000
open Go.RowKit

/-! ### Program -/
/-! ### Config -/
/-! ### Memory -/
def z_Memory : S_api_Memory := ⟨[], [], [], 0, 0⟩
theorem neqI_Memory (v : Value) (w : World) : (Op.equal 20 (.iface 191 v) .nilIface).run Tryz.prog w = .ok false w := rfl
set_option maxHeartbeats 1000000 in
theorem rec_Memory {K : Ctx} (b8 b9 : Nat) (c c_0 : Int) (c_1 : S_api_Memory) (p : Addr → Prop) (w : World) (v : Value) (hi : Inv K p [.cell b9 (.int .i64 c_0), .cell b8 (enc_S_api_Memory c_1)] w) (hv : Rep p w (.ifc 191 (.agg [.int .i64 c])) v) :
    CallsD Tryz.prog 188 #[.pointer (some ⟨b8, 0, none⟩), .pointer (some ⟨b9, 0, none⟩)] (.panicking [{ v, recovered := false }]) w fun e u' w' => u' = .panicking [{ v, recovered := true }] ∧ Left { K with X := fun _ _ => False } (fun d σ => d = .tup [] ∧ σ = [.cell b9 (.int .i64 c), .cell b8 (enc_S_api_Memory z_Memory)]) e w' := by
  refine callsD_rec Tryz.func188 rfl rfl rfl rfl rfl rfl rfl (by decide) (by decide) (by decide) (by decide) hi hv fun K' => ?_
  refine g_seq ?_
  refine n_run (by kernel_rfl) [(0, .d), (1, .d)] rfl ?_
  refine r_d rfl rfl rfl (s_move rfl rfl) ?_
  refine r_d rfl rfl rfl (s_neqNilI rfl rfl rfl neqI_Memory) ?_
  refine r_end ?_
  refine g_condT rfl ?_
  refine g_seq ?_
  refine n_run (by kernel_rfl) [(0, .d), (1, .d), (2, .d), (3, .d), (4, .d), (5, .w), (6, .w), (7, .d)] rfl ?_
  refine r_d rfl rfl rfl (s_move rfl rfl) ?_
  refine r_d rfl rfl rfl (s_assertT rfl ta_failure rfl) ?_
  refine r_d rfl rfl rfl (s_move rfl rfl) ?_
  refine r_d rfl rfl rfl (s_extract rfl rfl rfl) ?_
  refine r_d rfl rfl rfl (s_extract rfl rfl rfl) ?_
  refine r_w rfl rfl rfl (s_alloc rfl zv_snapshot_failure) ?_
  rintro _ _ ⟨b3_0, rfl, rfl⟩
  refine r_w01 rfl rfl rfl (t_store0 _ rfl rfl rfl (Wk.refl _) (pf0 _) (by exact ty_snapshot_failure) rfl rfl rfl) ?_
  refine r_d rfl rfl rfl (s_assign rfl rfl) ?_
  refine r_end ?_
  refine g_freeze 3 b3_0 rfl (pf0 _) ?_
  refine g_seq ?_
  refine g_seq ?_
  refine n_run (by kernel_rfl) [(0, .d), (1, .d)] rfl ?_
  refine r_d rfl rfl rfl (s_move rfl rfl) ?_
  refine r_d rfl rfl rfl (s_not rfl rfl) ?_
  refine r_end ?_
  refine g_condF rfl ?_
  refine g_skip ?_
  refine g_seq ?_
  refine n_run (by kernel_rfl) [(0, .w)] rfl ?_
  refine r_w rfl rfl rfl (s_alloc rfl zv_api_Memory) ?_
  rintro _ _ ⟨b5_2, rfl, rfl⟩
  refine r_end ?_
  refine g_any (by kernel_rfl) (by kernel_rfl) [(0, .r), (1, .d), (2, .d), (3, .w), (4, .w)] (by kernel_rfl) ?_
  refine r_r rfl rfl rfl (t_loadRef rfl rfl (.head _) rfl rfl (by exact ty_api_Memory) rfl) ?_
  refine r_d rfl rfl rfl (s_fieldAddr rfl fl_snapshot_failure_0 rfl rfl rfl rfl) ?_
  refine r_d rfl rfl rfl (s_load rfl rfl (by exact ty_api_Errno) rfl) ?_
  refine r_w01 rfl rfl rfl (t_store0 _ rfl rfl rfl (Wk.refl _) (pf2 _ _ _ _) (by exact ty_api_Memory) rfl (sz_S_api_Memory _) rfl) ?_
  refine r_w01 rfl rfl rfl (t_store0 _ rfl rfl rfl (Wk.refl _) (pf2 _ _ _ _) (by exact ty_api_Errno) rfl rfl rfl) ?_
  refine r_end ?_
  refine g_perm [_, _] _ ((pf1 _ _ _).trans (pf1 _ _ _)) ?_
  refine g_endD Tryz.func188 _ .nil ?_
  exact ⟨rfl, rfl⟩
theorem idle_Memory {K : Ctx} {σ : St} (b8 b9 : Nat) (p : Addr → Prop) (w : World) (hi : Inv K p σ w) :
    CallsD Tryz.prog 188 #[.pointer (some ⟨b8, 0, none⟩), .pointer (some ⟨b9, 0, none⟩)] .returning w fun e u' w' => u' = .returning ∧ Left { K with X := fun _ _ => False } (fun d σ' => d = .tup [] ∧ σ' = σ) e w' := by
  refine callsD_idle Tryz.func188 rfl rfl rfl rfl rfl rfl rfl (by decide) (by decide) (by decide) (by decide) hi fun K' => ?_
  refine g_seq ?_
  refine n_run (by kernel_rfl) [(0, .d), (1, .d)] rfl ?_
  refine r_d rfl rfl rfl (s_move rfl rfl) ?_
  refine r_d rfl rfl rfl (s_neqNilN rfl rfl fun _ => rfl) ?_
  refine r_end ?_
  refine g_condF rfl ?_
  refine g_skip ?_
  refine g_endD Tryz.func188 _ .nil ?_
  exact ⟨rfl, rfl⟩
theorem cl_whole1_Memory : callee Tryz.prog 188 := ⟨_, _, Tryz.func188, rfl, by decide⟩
noncomputable def lf_whole_Memory (fuel : Nat) (b_a0 : (List Int)) (first_a1 : Int) : Option (Int ⊕ (S_api_Memory × Int)) :=
  (bindX (lf_Psnapshot_reader_number_s1 first_a1 first_a1 (⟨b_a0, 0⟩ : S_snapshot_reader)) fun r_4 =>
  (bindX (lf_snapshot_TakeMemory_1_s1 fuel r_4.2) fun r_5 =>
  (bif (decide (r_5.2.f1_at < (b_a0.length : Int))) then
  some (.inl 3)
  else
  ((lf_snapshot_Memory fuel r_5.1).bind fun r_8 =>
  (bif ((r_8.length : Int) == (0 : Int)) then
  some (.inl 2)
  else
  some (.inr (r_5.1, 0)))))))
set_option maxHeartbeats 2000000 in
theorem lg_whole_Memory (fuel : Nat) (b_a0 : (List Int)) (first_a1 : Int) (res : Int ⊕ (S_api_Memory × Int)) (hr : lf_whole_Memory fuel b_a0 first_a1 = some res) : Gives Tryz.prog 110 [.lst (b_a0.map (D.int .u8)), .int .i64 first_a1, .clo (.func 111) [] [], .clo (.func 25) [] []] (.tup [enc_S_api_Memory (wholeR z_Memory res).1, .int .i64 (wholeR z_Memory res).2]) := by
  unfold lf_whole_Memory at hr
  refine spec_env [(0, .lst (b_a0.map (D.int .u8))), (1, .int .i64 first_a1), (2, .clo (.func 111) [] []), (3, .clo (.func 25) [] [])] Tryz.func110 rfl rfl fun K hK => ?_
  refine g_seq ?_
  refine g_run (by kernel_rfl) [(0, .w), (1, .w)] rfl ?_
  refine r_w rfl rfl rfl (s_alloc rfl zv_api_Memory) ?_
  rintro _ _ ⟨b8_0, rfl, rfl⟩
  refine r_w rfl rfl rfl (s_alloc rfl zv_api_Errno) ?_
  rintro _ _ ⟨b9_1, rfl, rfl⟩
  refine r_end ?_
  refine g_seq ?_
  refine g_defer2 rfl rfl rfl rfl rfl rfl rfl rfl rfl (by decide) ?_
  have hX : ∀ (e : Env) (c : Int), res = .inl c → lk e 8 = some (.ref b8_0 0 []) → lk e 9 = some (.ref b9_1 0 []) → OutD { Md.top with ds := { target := .fn (.func 188) #[.pointer (some ⟨b8_0, 0, none⟩), .pointer (some ⟨b9_1, 0, none⟩)], args := #[] } :: Md.top.ds } Tryz.prog Tryz.f110 K (fun d' _ => d' = .tup [enc_S_api_Memory (wholeR z_Memory res).1, .int .i64 (wholeR z_Memory res).2]) e (.ifc 191 (.agg [.int .i64 c])) [.cell b9_1 (.int .i64 0), .cell b8_0 (enc_S_api_Memory z_Memory)] := fun e c hc h8 h9 => by
    refine outD_of (s1 := 8) (s2 := 9) (ds := [enc_S_api_Memory z_Memory, .int .i64 c]) rfl cl_whole1_Memory (fun p w v hi hv => rec_Memory b8_0 b9_1 c 0 z_Memory p w v hi hv) (.cons (resRef rfl (.tail _ (.head _)) (by exact ty_api_Memory) (sz_S_api_Memory _) (Wk.refl _)) (.cons (resRef rfl (.head _) (by exact ty_api_Errno) rfl (Wk.refl _)) .nil)) ?_ h8 h9
    rw [hc]
    rfl
  refine g_seq ?_
  refine g_runD rfl rfl (by kernel_rfl) [(0, .d), (1, .d), (2, .w), (3, .d)] rfl ?_
  refine r_d rfl rfl rfl (s_move rfl rfl) ?_
  refine r_d rfl rfl rfl (s_build rfl bt_snapshot_reader (.cons rfl (Wk.refl _) .nil) (.cons rfl rfl rfl (.nil _))) ?_
  refine r_w rfl rfl rfl (s_boxRef rfl rfl rfl) ?_
  rintro _ _ ⟨b15_2, rfl, rfl⟩
  refine r_d rfl rfl rfl (s_assign rfl rfl) ?_
  refine r_end ?_
  refine g_seq ?_
  refine g_runD rfl rfl (by kernel_rfl) [(0, .d), (1, .d), (2, .d), (3, .w)] rfl ?_
  refine r_d rfl rfl rfl (s_move rfl rfl) ?_
  refine r_d rfl rfl rfl (s_move rfl rfl) ?_
  refine r_d rfl rfl rfl (s_move rfl rfl) ?_
  rcases bindXS hr with ⟨c_r_4, hr_4, rfl⟩ | ⟨r_4, hr_4, hr⟩
  ·
   refine r_die rfl rfl (s_callXT _ rfl cl_Psnapshot_reader_number (.cons rfl (Wk.refl _) (.cons rfl (Wk.refl _) (.cons rfl (Wk.refl _) .nil))) (by exact (pf0 _)) (specX_inl (lg_Psnapshot_reader_number_s1 _ _ _ _ _ hr_4))) (hX _ _ rfl rfl rfl)
  ·
   refine r_w rfl rfl rfl (s_call _ rfl cl_Psnapshot_reader_number (.cons rfl (Wk.refl _) (.cons rfl (Wk.refl _) (.cons rfl (Wk.refl _) .nil))) (by exact (pf0 _)) (specX_inr (lg_Psnapshot_reader_number_s1 _ _ _ _ _ hr_4))) ?_
   rintro _ _ ⟨_, ⟨rfl, rfl⟩, rfl⟩
   refine r_st ((.cell b15_2 (enc_S_snapshot_reader r_4.2)) :: _) rfl ?_
   refine r_end ?_
   refine g_seq ?_
   refine g_runD rfl rfl (by kernel_rfl) [(0, .d), (1, .d), (2, .w), (3, .w), (4, .w)] rfl ?_
   refine r_d rfl rfl rfl (s_move rfl rfl) ?_
   refine r_d rfl rfl rfl (s_move rfl rfl) ?_
   rcases bindXS hr with ⟨c_r_5, hr_5, rfl⟩ | ⟨r_5, hr_5, hr⟩
   ·
    refine r_die rfl rfl (s_callVXT _ rfl rfl cl_snapshot_TakeMemory_1 (.cons rfl (Wk.refl _) .nil) rfl (by exact (pf0 _)) (specX_inl (lg_snapshot_TakeMemory_1_s1 fuel _ _ _ hr_5))) (hX _ _ rfl rfl rfl)
   ·
    refine r_w rfl rfl rfl (s_callV _ rfl rfl cl_snapshot_TakeMemory_1 (.cons rfl (Wk.refl _) .nil) rfl (by exact (pf0 _)) (specX_inr (lg_snapshot_TakeMemory_1_s1 fuel _ _ _ hr_5))) ?_
    rintro _ _ ⟨_, ⟨rfl, rfl⟩, rfl⟩
    refine r_st ((.cell b15_2 (enc_S_snapshot_reader r_5.2)) :: _) rfl ?_
    refine r_w rfl rfl rfl (s_alloc rfl zv_api_Memory) ?_
    rintro _ _ ⟨b11_5, rfl, rfl⟩
    refine r_w01 rfl rfl rfl (t_store0 _ rfl rfl rfl (Wk.refl _) (pf0 _) (by exact ty_api_Memory) (sz_S_api_Memory _) rfl rfl) ?_
    refine r_end ?_
    refine g_freeze 11 b11_5 rfl (pf0 _) ?_
    refine g_seq ?_
    refine g_block ?_
    refine g_seq ?_
    refine g_runD rfl rfl (by kernel_rfl) [(0, .d), (1, .d), (2, .d), (3, .r), (4, .d), (5, .d), (6, .d), (7, .d)] rfl ?_
    refine r_d rfl rfl rfl (s_move rfl rfl) ?_
    refine r_d rfl rfl rfl (s_nilCheckR rfl rfl) ?_
    refine r_d rfl rfl rfl (s_fieldRef rfl fl_snapshot_reader_1 rfl) ?_
    refine r_r rfl rfl rfl (t_loadRef rfl rfl (.head _) rfl rfl (by exact ty_int) rfl) ?_
    refine r_d rfl rfl rfl (s_move rfl rfl) ?_
    refine r_d rfl rfl rfl (m_len (f := (D.int .u8)) b_a0 rfl el_L_uint8 rfl (asl rfl)) ?_
    refine r_d rfl rfl rfl (s_cmp rfl rfl rfl rfl) ?_
    refine r_d rfl rfl rfl (s_assign rfl rfl) ?_
    refine r_end ?_
    refine g_sB 23 rfl hr (fun h23_6 hr => ?_) (fun h23_6 hr => ?_)
    ·
     refine g_condT rfl ?_
     refine g_runD rfl rfl (by kernel_rfl) [(0, .d), (1, .d), (2, .w)] rfl ?_
     refine r_d rfl rfl rfl (s_build rfl bt_snapshot_failure (.cons rfl (Wk.refl _) .nil) (.cons rfl rfl rfl (.nil _))) ?_
     refine r_d rfl rfl rfl (s_makeIfc rfl Tryz.underlying191 rfl) ?_
     obtain rfl := Option.some.inj hr
     refine r_die rfl rfl (s_panicT _ rfl rfl (List.perm_append_comm (l₁ := [_]) (l₂ := [_, _]))) (hX _ _ rfl rfl rfl)
    ·
     refine g_condF rfl ?_
     refine g_seq ?_
     refine g_runD rfl rfl (by kernel_rfl) [(0, .d), (1, .d), (2, .d), (3, .d), (4, .d), (5, .d)] rfl ?_
     refine r_d rfl rfl rfl (s_move rfl rfl) ?_
     refine r_d rfl rfl rfl (s_load rfl rfl (by exact ty_api_Memory) (sz_S_api_Memory _)) ?_
     obtain ⟨r_8, hr_8, hr⟩ := bindS hr
     refine r_d rfl rfl rfl (s_callVD rfl rfl cl_snapshot_Memory (.cons rfl (Wk.refl _) .nil) rfl (lg_snapshot_Memory fuel _ _ hr_8)) ?_
     refine r_d rfl rfl rfl (m_len (f := (D.int .u8)) r_8 rfl el_L_uint8 rfl (asl rfl)) ?_
     refine r_d rfl rfl rfl (s_cmp rfl rfl rfl rfl) ?_
     refine r_d rfl rfl rfl (s_assign rfl rfl) ?_
     refine r_end ?_
     refine g_sB 33 rfl hr (fun h33_8 hr => ?_) (fun h33_8 hr => ?_)
     ·
      refine g_condT rfl ?_
      refine g_runD rfl rfl (by kernel_rfl) [(0, .d), (1, .d), (2, .w)] rfl ?_
      refine r_d rfl rfl rfl (s_build rfl bt_snapshot_failure (.cons rfl (Wk.refl _) .nil) (.cons rfl rfl rfl (.nil _))) ?_
      refine r_d rfl rfl rfl (s_makeIfc rfl Tryz.underlying191 rfl) ?_
      obtain rfl := Option.some.inj hr
      refine r_die rfl rfl (s_panicT _ rfl rfl (List.perm_append_comm (l₁ := [_]) (l₂ := [_, _]))) (hX _ _ rfl rfl rfl)
     ·
      refine g_condF rfl ?_
      refine g_skip ?_
      refine g_inBlock ?_
      refine g_seq ?_
      refine g_runD rfl rfl (by kernel_rfl) [(0, .d), (1, .w), (2, .w)] rfl ?_
      refine r_d rfl rfl rfl (s_load rfl rfl (by exact ty_api_Memory) (sz_S_api_Memory _)) ?_
      refine r_w01 rfl rfl rfl (t_store0 _ rfl rfl rfl (Wk.refl _) (pf2 _ _ _ _) (by exact ty_api_Memory) (sz_S_api_Memory _) rfl rfl) ?_
      refine r_w01 rfl rfl rfl (t_store0 _ rfl rfl rfl (Wk.refl _) (pf2 _ _ _ _) (by exact ty_api_Errno) rfl rfl rfl) ?_
      refine r_end ?_
      obtain rfl := Option.some.inj hr
      exact g_retD rfl rfl fun p a w hi hr => leavesD_of (ds := [_, _]) rfl cl_whole1_Memory (fun p w hi => idle_Memory _ _ p w hi) (s1 := 8) (s2 := 9) rfl rfl (.cons (resRef rfl (.tail _ (.head _)) (by exact ty_api_Memory) (sz_S_api_Memory _) (Wk.refl _)) (.cons (resRef rfl (.head _) (by exact ty_api_Errno) rfl (Wk.refl _)) .nil)) rfl p a w hi hr

noncomputable def lf_wholeR_Memory (fuel : Nat) (b : List Int) (n : Int) : Option (S_api_Memory × Int) := (lf_whole_Memory fuel b n).bind fun r => some (wholeR z_Memory r)
theorem lg_wholeR_Memory (fuel : Nat) (b : List Int) (n : Int) (res : S_api_Memory × Int) (hr : lf_wholeR_Memory fuel b n = some res) : Gives Tryz.prog 110 [.lst (b.map (D.int .u8)), .int .i64 n, .clo (.func 111) [] [], .clo (.func 25) [] []] (.tup [enc_S_api_Memory res.1, .int .i64 res.2]) := by
  obtain ⟨r, h1, h2⟩ := bindS hr
  rw [← Option.some.inj h2]
  exact lg_whole_Memory fuel b n r h1
end Go.Proofs.YtdoljfkjdfaakaaGreat


namespace Go.Proofs.YtdoljfkjdfaakaaGreat
set_option maxRecDepth 100000
open Go.RowKit

theorem rd_fact {fuel : Nat} (hfu : 21 ≤ fuel) (x : S_api_Fact) : RdO (lf_Psnapshot_reader_fact_s1 fuel) (eFact x) x := by
  unfold lf_Psnapshot_reader_fact_s1 eFact
  rw [← catO_assoc]
  refine RdO.bind (rd_item hfu (x.f0_ID, x.f1_Atom)) ?_
  dsimp only
  exact RdO.last (rd_nums x.f2_Just (by omega) (by omega)) fun c => rfl
theorem rd_applied (x : S_api_Applied) : RdO lf_Psnapshot_reader_applied_s1 (eApplied x) x := by
  unfold lf_Psnapshot_reader_applied_s1
  refine RdO.bind (rd_num (n := x.f0_Rule) (by omega) (by omega)) ?_
  dsimp only
  refine RdO.bind (rd_nums x.f1_Heads (by omega) (by omega)) ?_
  dsimp only
  refine RdO.bind (rd_nums x.f2_Gone (by omega) (by omega)) ?_
  dsimp only
  refine RdO.bind (rd_nums x.f3_Made (by omega) (by omega)) ?_
  dsimp only
  refine RdO.bind (rd_flag x.f4_Failed) ?_
  dsimp only
  exact RdO.last (rd_nums x.f5_Just (by omega) (by omega)) fun c => rfl
theorem loopT_s11 (fuel : Nat) : ∀ (n : Nat) (out : List S_api_Fact) (c : RR), lf_snapshot_take_s11_L0 (fun o r => some (.inr (o, r))) fuel n out c = runT (lf_Psnapshot_reader_fact_s1 fuel) 72 n out c
  | 0, out, c => rfl
  | n + 1, out, c => by
    rw [lf_snapshot_take_s11_L0, runT]
    simp only [loopT_s11 fuel n]
theorem rd_take11 {fuel : Nat} (hfu : 21 ≤ fuel) (l : List S_api_Fact) {most : Int} (hm : most ≤ 10000000) : RdO (lf_snapshot_take_s11 fuel most) (eList most eFact l) l := by
  refine (rd_take (one := lf_Psnapshot_reader_fact_s1 fuel) (sz := 72) (by omega) hm fun x _ => rd_fact hfu x).congr fun c => ?_
  unfold lf_snapshot_take_s11
  simp only [loopT_s11]
theorem loopT_s12 : ∀ (n : Nat) (out : List S_api_Applied) (c : RR), lf_snapshot_take_s12_L0 (fun o r => some (.inr (o, r))) n out c = runT (lf_Psnapshot_reader_applied_s1) 112 n out c
  | 0, out, c => rfl
  | n + 1, out, c => by
    rw [lf_snapshot_take_s12_L0, runT]
    simp only [loopT_s12 n]
theorem rd_take12 (l : List S_api_Applied) {most : Int} (hm : most ≤ 10000000) : RdO (lf_snapshot_take_s12 most) (eList most eApplied l) l := by
  refine (rd_take (one := lf_Psnapshot_reader_applied_s1) (sz := 112) (by omega) hm fun x _ => rd_applied x).congr fun c => ?_
  unfold lf_snapshot_take_s12
  simp only [loopT_s12]
theorem rd_Memory {fuel : Nat} (hfu : 21 ≤ fuel) (p : S_api_Memory) : RdO (fun c => bindX (lf_Psnapshot_reader_number_s1 3 3 c) fun r => lf_snapshot_TakeMemory_1_s1 fuel r.2) (eMemory p) p := by
  refine RdO.bind (rd_num (n := 3) (by omega) (by omega)) (y := p) ?_
  dsimp only
  unfold lf_snapshot_TakeMemory_1_s1
  refine RdO.bind (rd_take11 hfu p.f0_Facts (by omega)) ?_
  dsimp only
  refine RdO.bind (rd_take11 hfu p.f1_Past (by omega)) ?_
  dsimp only
  refine RdO.bind (rd_take12 p.f2_Log (by omega)) ?_
  dsimp only
  refine RdO.bind (rd_num (n := p.f3_Next) (by omega) (by omega)) ?_
  dsimp only
  exact RdO.last (rd_num (n := p.f4_Given) (by omega) (by omega)) fun c => rfl
theorem whole_Memory {fuel : Nat} (hfu : 21 ≤ fuel) {p : S_api_Memory} {e : List Int} (he : eMemory p = some e) (hw : lf_snapshot_Memory fuel p = some e) (hl : e.length ≤ 999999999) :
    lf_wholeR_Memory fuel e 3 = some (p, 0) ∧ (∀ x, lf_wholeR_Memory fuel (e ++ [x]) 3 = some (z_Memory, 3)) ∧ ∀ t z, z ≠ [] → e = t ++ z → lf_wholeR_Memory fuel t 3 = some (z_Memory, 4) := by
  have hr := rd_Memory hfu p e he
  have hne : e ≠ [] := catO_pos he
  have hpos : 0 < e.length := List.length_pos_iff.2 hne
  have key : ∀ b, lf_whole_Memory fuel b 3 = bindX ((fun c => bindX (lf_Psnapshot_reader_number_s1 3 3 c) fun r => lf_snapshot_TakeMemory_1_s1 fuel r.2) ⟨b, 0⟩) fun r_5 => bif (decide (r_5.2.f1_at < (b.length : Int))) then some (.inl 3) else ((lf_snapshot_Memory fuel r_5.1).bind fun r_8 => bif ((r_8.length : Int) == (0 : Int)) then some (.inl 2) else some (.inr (r_5.1, 0))) := fun b => by
    rw [bindX_assoc]
    rfl
  refine ⟨?_, fun x => ?_, fun t z hz ht => ?_⟩
  · have h := hr.1 [] [] (by simpa using (by omega : e.length ≤ 1000000000))
    simp only [List.nil_append, List.append_nil, List.length_nil] at h
    rw [lf_wholeR_Memory, key]
    dsimp only
    rw [show ((0 : Nat) : Int) = 0 from rfl] at h
    rw [h, bindX_ok]
    have h1 : decide ((e.length : Int) < (e.length : Int)) = false := decide_eq_false (by omega)
    have h2 : ((e.length : Int) == 0) = false := by
      rw [beq_eq_false_iff_ne]
      omega
    simp only [h1, cond_false, hw, Option.bind_some, h2]
    rfl
  · have h := hr.1 [] [x] (by simp only [List.nil_append, List.length_append, List.length_singleton]; omega)
    simp only [List.nil_append, List.length_nil] at h
    rw [lf_wholeR_Memory, key]
    dsimp only
    rw [show ((0 : Nat) : Int) = 0 from rfl] at h
    rw [h, bindX_ok]
    have h1 : decide ((e.length : Int) < ((e ++ [x]).length : Int)) = true := decide_eq_true (by simp only [List.length_append, List.length_singleton]; omega)
    simp only [h1, cond_true]
    rfl
  · have h := hr.2 [] t z (by
      have := congrArg List.length ht
      rw [List.length_append] at this
      simp only [List.nil_append]
      omega) hz ht
    simp only [List.nil_append, List.length_nil] at h
    rw [lf_wholeR_Memory, key]
    dsimp only
    rw [show ((0 : Nat) : Int) = 0 from rfl] at h
    rw [h]
    rfl
theorem whole0_Memory (fuel : Nat) : lf_wholeR_Memory fuel [] 3 = some (z_Memory, 4) := by
  have hx : x_cInt [] 0 3 3 = some (0, 0, 4) := by
    rw [x_cInt, if_pos (by simp)]
    rfl
  have h : lf_Psnapshot_reader_number_s1 3 3 ⟨[], 0⟩ = some (.inl 4) := by
    unfold lf_Psnapshot_reader_number_s1
    simp only [hx, Option.bind_some]
    rfl
  unfold lf_wholeR_Memory lf_whole_Memory
  rw [h]
  rfl
end Go.Proofs.YtdoljfkjdfaakaaGreat


namespace Go.Proofs.YtdoljfkjdfaakaaGreat
set_option maxRecDepth 100000
open Go.RowKit

set_option maxHeartbeats 1000000 in
theorem lg_constraintref03_GreatAtoms (l_a0 : (List At)) (most_a1 : Int) (res : Bool) (hr : lf_constraintref03_GreatAtoms l_a0 most_a1 = some res) : Gives Tryz.prog 32 [.lst (l_a0.map encA), .int .i64 most_a1] (.bool res) := by
  unfold lf_constraintref03_GreatAtoms at hr
  refine spec_env [(0, .lst (l_a0.map encA)), (1, .int .i64 most_a1)] Tryz.func32 rfl rfl fun K hK => ?_
  refine g_seq ?_
  refine g_run (by kernel_rfl) [(0, .d)] rfl ?_
  refine r_d rfl rfl rfl (s_assign rfl rfl) ?_
  refine r_end ?_
  refine g_seq ?_
  refine g_seq ?_
  refine g_run (by kernel_rfl) [(0, .d)] rfl ?_
  refine r_d rfl rfl rfl (s_assign rfl rfl) ?_
  refine r_end ?_
  obtain ⟨kk0, hkk0, hr⟩ := exK (fun k => lf_constraintref03_GreatAtoms_L0 k l_a0 most_a1) hr
  refine g_len 0 rfl (asl rfl) fun hla0 => ?_
  simp only [List.length_map] at hla0
  refine g_blockJ (fun env σ => ∃ (most_3 : Int), env = [(1, .int .i64 most_3)] ∧ σ = [] ∧ kk0 most_3 = some res) ?_ (fun HK0 => ?_)
  ·
   rintro _ _ ⟨most_3, rfl, rfl, hr⟩
   rw [hkk0] at hr
   refine g_seq ?_
   refine g_run (by kernel_rfl) [(0, .d), (1, .d), (2, .d)] rfl ?_
   refine r_d rfl rfl rfl (s_move rfl rfl) ?_
   refine r_d rfl rfl rfl (s_cmp rfl rfl rfl rfl) ?_
   refine r_d rfl rfl rfl (s_assign rfl rfl) ?_
   refine r_end ?_
   obtain rfl := Option.some.inj hr
   refine g_ret Tryz.func32 _ (.cons (resTmp rfl (Wk.refl _)) .nil) ?_
   rfl
  ·
   refine g_sub [(0, .lst (l_a0.map encA)), (1, .int .i64 most_a1), (5, .int .i64 ((0 : Nat) : Int))] (Sub.cons' rfl (Sub.cons' rfl (Sub.cons' rfl (Sub.nil _)))) ?_
   refine g_loop (fun n env σ => ∃ (most_1 : Int) (i_2 : Nat), (n = l_a0.length - i_2) ∧ (env = [(0, .lst (l_a0.map encA)), (1, .int .i64 most_1), (5, .int .i64 (i_2 : Int))]) ∧ (σ = []) ∧ (i_2 ≤ l_a0.length) ∧ (lf_constraintref03_GreatAtoms_L0 kk0 (l_a0.drop i_2) most_1 = some res)) _ ⟨most_a1, 0, rfl, rfl, rfl, Nat.zero_le _, hr⟩ ?_
   rintro n _ _ ⟨most_1, i_2, rfl, rfl, rfl, hi0, hr⟩ IH0
   rcases listStep l_a0 i_2 hi0 with ⟨ht0, hd0, he0⟩ | ⟨q_4, ht0, hd0, hq0, hlt0⟩
   ·
    rw [hd0, lf_constraintref03_GreatAtoms_L0] at hr
    refine g_seq ?_
    refine g_seq ?_
    refine g_run (by kernel_rfl) [(0, .d), (1, .d), (2, .d), (3, .d), (4, .d), (5, .d), (6, .d), (7, .d)] rfl ?_
    refine r_d rfl rfl rfl (s_move rfl rfl) ?_
    refine r_d rfl rfl rfl (s_move rfl rfl) ?_
    refine r_d rfl rfl rfl (m_len (f := encA) l_a0 rfl el_L_api_Atom rfl (asl rfl)) ?_
    refine r_d rfl rfl rfl (s_cmp rfl rfl rfl rfl) ?_
    refine r_d rfl rfl rfl (s_move rfl rfl) ?_
    refine r_known 10 false rfl ht0 ?_
    refine r_skip rfl rfl rfl ?_
    refine r_skip rfl rfl rfl ?_
    refine r_d rfl rfl rfl (s_pickF rfl rfl rfl) ?_
    refine r_end ?_
    refine g_condF rfl ?_
    refine g_exit rfl ?_
    refine g_sub [(1, .int .i64 most_1)] (Sub.cons' rfl (Sub.nil _)) ?_
    exact HK0 _ _ ⟨most_1, rfl, rfl, hr⟩
   ·
    rw [hd0, lf_constraintref03_GreatAtoms_L0] at hr
    refine g_seq ?_
    refine g_seq ?_
    refine g_run (by kernel_rfl) [(0, .d), (1, .d), (2, .d), (3, .d), (4, .d), (5, .d), (6, .d), (7, .d)] rfl ?_
    refine r_d rfl rfl rfl (s_move rfl rfl) ?_
    refine r_d rfl rfl rfl (s_move rfl rfl) ?_
    refine r_d rfl rfl rfl (m_len (f := encA) l_a0 rfl el_L_api_Atom rfl (asl rfl)) ?_
    refine r_d rfl rfl rfl (s_cmp rfl rfl rfl rfl) ?_
    refine r_d rfl rfl rfl (s_move rfl rfl) ?_
    refine r_known 10 true rfl ht0 ?_
    refine r_d rfl rfl rfl (s_move rfl rfl) ?_
    refine r_d rfl rfl rfl (s_cmp rfl rfl rfl rfl) ?_
    refine r_d rfl rfl rfl (s_pickT rfl rfl rfl) ?_
    refine r_end ?_
    refine g_sB 13 rfl hr (fun h13_4 hr => ?_) (fun h13_4 hr => ?_)
    ·
     refine g_condT rfl ?_
     refine g_skip ?_
     refine g_seq ?_
     refine g_block ?_
     refine g_any (by kernel_rfl) (by kernel_rfl) [(0, .d), (1, .d), (2, .d), (3, .d), (4, .d), (5, .d), (6, .d), (7, .d), (8, .d), (9, .d), (10, .d), (11, .d), (12, .d), (13, .d), (14, .d), (15, .d), (16, .d)] (by kernel_rfl) ?_
     refine r_d rfl rfl rfl (s_move rfl rfl) ?_
     refine r_d rfl rfl rfl (s_move rfl rfl) ?_
     refine r_d rfl rfl rfl (m_index (f := encA) l_a0 rfl el_L_api_Atom rfl (asl rfl) rfl hq0 sz_encA rfl) ?_
     refine r_d rfl rfl rfl (s_fieldAddr rfl fl_api_Atom_1 rfl rfl rfl rfl) ?_
     refine r_d rfl rfl rfl (s_load rfl rfl (by exact ty_L_api_Term) rfl) ?_
     refine r_d rfl rfl rfl (s_move rfl rfl) ?_
     refine r_d rfl rfl rfl (s_arW rfl rfl rfl rfl) ?_
     refine r_d rfl rfl rfl (s_move rfl rfl) ?_
     refine r_d rfl rfl rfl (s_move rfl rfl) ?_
     refine r_d rfl rfl rfl (m_index (f := encA) l_a0 rfl el_L_api_Atom rfl (asl rfl) rfl hq0 sz_encA rfl) ?_
     refine r_d rfl rfl rfl (s_fieldAddr rfl fl_api_Atom_0 rfl rfl rfl rfl) ?_
     refine r_d rfl rfl rfl (s_load rfl rfl (by exact ty_string) rfl) ?_
     refine r_d rfl rfl rfl (s_lenS rfl Tryz.underlying9 rfl) ?_
     refine r_d rfl rfl rfl (s_quoC rfl rfl rfl (by decide)) ?_
     refine r_d rfl rfl rfl (s_arW rfl rfl rfl rfl) ?_
     obtain ⟨r_6, hr_6, hr⟩ := bindS hr
     refine r_d rfl rfl rfl (s_callD rfl cl_constraintref03_weigh (.cons rfl (Wk.refl _) (.cons rfl (Wk.refl _) (.cons rfl (Wk.refl _) .nil))) (lx_constraintref03_weigh _ _ _ _ hr_6)) ?_
     refine r_d rfl rfl rfl (s_assign rfl rfl) ?_
     refine r_end ?_
     refine g_inBlock ?_
     refine g_run (by kernel_rfl) [(0, .d), (1, .d), (2, .d)] rfl ?_
     refine r_d rfl rfl rfl (s_move rfl rfl) ?_
     refine r_d rfl rfl rfl (s_ar (r := ((i_2 + 1 : Nat) : Int)) rfl rfl rfl (by simp [iar]) (by omega)) ?_
     refine r_d rfl rfl rfl (s_assign rfl rfl) ?_
     refine r_end ?_
     refine g_sub [(0, .lst (l_a0.map encA)), (1, .int .i64 r_6), (5, .int .i64 ((i_2 + 1 : Nat) : Int))] (Sub.cons' rfl (Sub.cons' rfl (Sub.cons' rfl (Sub.nil _)))) ?_
     exact IH0 _ _ _ (by omega) ⟨r_6, (i_2 + 1), rfl, rfl, rfl, (by omega), hr⟩
    ·
     refine g_condF rfl ?_
     refine g_exit rfl ?_
     refine g_sub [(1, .int .i64 most_1)] (Sub.cons' rfl (Sub.nil _)) ?_
     exact HK0 _ _ ⟨most_1, rfl, rfl, hr⟩

noncomputable def lf_constraintlaw52_few_L2 (k : Option (Bool)) : List S_api_Applied → Option (Bool)
  | [] =>
  k
  | q_19 :: rest =>
  (bif (decide ((q_19.f1_Heads.length : Int) > (20 : Int))) then
  some (false)
  else
  (bif (decide ((q_19.f2_Gone.length : Int) > (20 : Int))) then
  some (false)
  else
  (bif (decide ((q_19.f3_Made.length : Int) > (20 : Int))) then
  some (false)
  else
  (bif (decide ((q_19.f5_Just.length : Int) > (80 : Int))) then
  some (false)
  else
  (lf_constraintlaw52_few_L2 k rest)))))

noncomputable def lf_constraintlaw52_few_L1 (k : ((List At)) → Option (Bool)) : List S_api_Fact → (List At) → Option (Bool)
  | [], l_11 =>
  (k l_11)
  | q_25 :: rest, l_11 =>
  ((appO 40 l_11 [q_25.f1_Atom]).bind fun l_26 =>
  (bif (decide ((q_25.f2_Just.length : Int) > (80 : Int))) then
  some (false)
  else
  (lf_constraintlaw52_few_L1 k rest l_26)))

noncomputable def lf_constraintlaw52_few_L0 (k : ((List At)) → Option (Bool)) : List S_api_Fact → (List At) → Option (Bool)
  | [], l_6 =>
  (k l_6)
  | q_29 :: rest, l_6 =>
  ((appO 40 l_6 [q_29.f1_Atom]).bind fun l_30 =>
  (bif (decide ((q_29.f2_Just.length : Int) > (80 : Int))) then
  some (false)
  else
  (lf_constraintlaw52_few_L0 k rest l_30)))
noncomputable def lf_constraintlaw52_few (m_a0 : S_api_Memory) : Option (Bool) :=
  (bif (decide ((m_a0.f0_Facts.length : Int) > (20 : Int))) then
  some (false)
  else
  (bif (decide ((m_a0.f1_Past.length : Int) > (20 : Int))) then
  some (false)
  else
  (bif (decide ((m_a0.f2_Log.length : Int) > (20 : Int))) then
  some (false)
  else
  (lf_constraintlaw52_few_L0 (fun l_9 =>
  (lf_constraintlaw52_few_L1 (fun l_14 =>
  (lf_constraintlaw52_few_L2 (((lf_constraintref03_GreatAtoms l_14 600).bind fun r_18 =>
  some ((!r_18)))) m_a0.f2_Log)) m_a0.f1_Past l_9)) m_a0.f0_Facts []))))

set_option maxHeartbeats 1000000 in
theorem lg_constraintlaw52_few (m_a0 : S_api_Memory) (res : Bool) (hr : lf_constraintlaw52_few m_a0 = some res) : Gives Tryz.prog 22 [enc_S_api_Memory m_a0] (.bool res) := by
  unfold lf_constraintlaw52_few at hr
  refine spec_env [(0, enc_S_api_Memory m_a0)] Tryz.func22 rfl rfl fun K hK => ?_
  refine g_seq ?_
  refine g_run (by kernel_rfl) [(0, .d), (1, .d)] rfl ?_
  refine r_d rfl rfl rfl (s_box rfl rfl rfl) ?_
  refine r_d rfl rfl rfl (s_assign rfl rfl) ?_
  refine r_end ?_
  refine g_seq ?_
  refine g_seq ?_
  refine g_run (by kernel_rfl) [(0, .d), (1, .d), (2, .d), (3, .d), (4, .d), (5, .d), (6, .d), (7, .d), (8, .d), (9, .d), (10, .d), (11, .d), (12, .d), (13, .d), (14, .d), (15, .d)] rfl ?_
  refine r_d rfl rfl rfl (s_fieldAddr rfl fl_api_Memory_0 rfl rfl rfl rfl) ?_
  refine r_d rfl rfl rfl (s_load rfl rfl (by exact ty_L_api_Fact) rfl) ?_
  refine r_d rfl rfl rfl (m_len (f := enc_S_api_Fact) m_a0.f0_Facts rfl el_L_api_Fact rfl (asl rfl)) ?_
  refine r_d rfl rfl rfl (s_cmp rfl rfl rfl rfl) ?_
  refine r_d rfl rfl rfl (s_move rfl rfl) ?_
  refine r_sB 12 rfl hr (fun h12_0 hr => ?_) (fun h12_0 hr => ?_)
  ·
   refine r_skip rfl rfl rfl ?_
   refine r_skip rfl rfl rfl ?_
   refine r_skip rfl rfl rfl ?_
   refine r_skip rfl rfl rfl ?_
   refine r_d rfl rfl rfl (s_pickT rfl rfl rfl) ?_
   refine r_d rfl rfl rfl (s_move rfl rfl) ?_
   refine r_skip rfl rfl rfl ?_
   refine r_skip rfl rfl rfl ?_
   refine r_skip rfl rfl rfl ?_
   refine r_skip rfl rfl rfl ?_
   refine r_d rfl rfl rfl (s_pickT rfl rfl rfl) ?_
   refine r_end ?_
   refine g_condT rfl ?_
   refine g_seq ?_
   refine g_run (by kernel_rfl) [(0, .d)] rfl ?_
   refine r_d rfl rfl rfl (s_assign rfl rfl) ?_
   refine r_end ?_
   obtain rfl := Option.some.inj hr
   refine g_ret Tryz.func22 _ (.cons (resTmp rfl (Wk.refl _)) .nil) ?_
   rfl
  ·
   refine r_d rfl rfl rfl (s_fieldAddr rfl fl_api_Memory_1 rfl rfl rfl rfl) ?_
   refine r_d rfl rfl rfl (s_load rfl rfl (by exact ty_L_api_Fact) rfl) ?_
   refine r_d rfl rfl rfl (m_len (f := enc_S_api_Fact) m_a0.f1_Past rfl el_L_api_Fact rfl (asl rfl)) ?_
   refine r_d rfl rfl rfl (s_cmp rfl rfl rfl rfl) ?_
   refine r_d rfl rfl rfl (s_pickF rfl rfl rfl) ?_
   refine r_d rfl rfl rfl (s_move rfl rfl) ?_
   refine r_sB 18 rfl hr (fun h18_1 hr => ?_) (fun h18_1 hr => ?_)
   ·
    refine r_skip rfl rfl rfl ?_
    refine r_skip rfl rfl rfl ?_
    refine r_skip rfl rfl rfl ?_
    refine r_skip rfl rfl rfl ?_
    refine r_d rfl rfl rfl (s_pickT rfl rfl rfl) ?_
    refine r_end ?_
    refine g_condT rfl ?_
    refine g_seq ?_
    refine g_run (by kernel_rfl) [(0, .d)] rfl ?_
    refine r_d rfl rfl rfl (s_assign rfl rfl) ?_
    refine r_end ?_
    obtain rfl := Option.some.inj hr
    refine g_ret Tryz.func22 _ (.cons (resTmp rfl (Wk.refl _)) .nil) ?_
    rfl
   ·
    refine r_d rfl rfl rfl (s_fieldAddr rfl fl_api_Memory_2 rfl rfl rfl rfl) ?_
    refine r_d rfl rfl rfl (s_load rfl rfl (by exact ty_L_api_Applied) rfl) ?_
    refine r_d rfl rfl rfl (m_len (f := enc_S_api_Applied) m_a0.f2_Log rfl el_L_api_Applied rfl (asl rfl)) ?_
    refine r_d rfl rfl rfl (s_cmp rfl rfl rfl rfl) ?_
    refine r_d rfl rfl rfl (s_pickF rfl rfl rfl) ?_
    refine r_end ?_
    refine g_sB 23 rfl hr (fun h23_2 hr => ?_) (fun h23_2 hr => ?_)
    ·
     refine g_condT rfl ?_
     refine g_seq ?_
     refine g_run (by kernel_rfl) [(0, .d)] rfl ?_
     refine r_d rfl rfl rfl (s_assign rfl rfl) ?_
     refine r_end ?_
     obtain rfl := Option.some.inj hr
     refine g_ret Tryz.func22 _ (.cons (resTmp rfl (Wk.refl _)) .nil) ?_
     rfl
    ·
     refine g_condF rfl ?_
     refine g_skip ?_
     refine g_seq ?_
     refine g_run (by kernel_rfl) [(0, .w)] rfl ?_
     refine r_w rfl rfl rfl (s_nilOwn 107 2 (.inl rfl)) ?_
     rintro _ _ ⟨u3_3, rfl, rfl⟩
     refine r_end ?_
     refine g_seq ?_
     refine g_seq ?_
     refine g_run (by kernel_rfl) [(0, .d)] rfl ?_
     refine r_d rfl rfl rfl (s_assign rfl rfl) ?_
     refine r_end ?_
     obtain ⟨kk0, hkk0, hr⟩ := exK (fun k => lf_constraintlaw52_few_L0 k m_a0.f0_Facts []) hr
     refine g_len 9 rfl (asl rfl) fun hla0 => ?_
     simp only [List.length_map] at hla0
     refine g_blockJ (fun env σ => ∃ (l_9 : (List At)) (u_8 : Value), env = [(1, .ptr (enc_S_api_Memory m_a0)), (3, .own u_8 (l_9.map encA))] ∧ σ = [.row u_8 l_9.length 107 2] ∧ kk0 l_9 = some res) ?_ (fun HK0 => ?_)
     ·
      rintro _ _ ⟨l_9, u_8, rfl, rfl, hr⟩
      rw [hkk0] at hr
      refine g_seq ?_
      refine g_seq ?_
      refine g_run (by kernel_rfl) [(0, .d)] rfl ?_
      refine r_d rfl rfl rfl (s_assign rfl rfl) ?_
      refine r_end ?_
      obtain ⟨kk1, hkk1, hr⟩ := exK (fun k => lf_constraintlaw52_few_L1 k m_a0.f1_Past l_9) hr
      refine g_lenP 1 [1] (l := m_a0.f1_Past.map enc_S_api_Fact) rfl rfl (asl rfl) fun hla1 => ?_
      simp only [List.length_map] at hla1
      refine g_blockJ (fun env σ => ∃ (l_14 : (List At)) (u_13 : Value), env = [(1, .ptr (enc_S_api_Memory m_a0)), (3, .own u_13 (l_14.map encA))] ∧ σ = [.row u_13 l_14.length 107 2] ∧ kk1 l_14 = some res) ?_ (fun HK1 => ?_)
      ·
       rintro _ _ ⟨l_14, u_13, rfl, rfl, hr⟩
       rw [hkk1] at hr
       refine g_seq ?_
       refine g_seq ?_
       refine g_run (by kernel_rfl) [(0, .d)] rfl ?_
       refine r_d rfl rfl rfl (s_assign rfl rfl) ?_
       refine r_end ?_
       obtain ⟨kk2, hkk2, hr⟩ := exK (fun k => lf_constraintlaw52_few_L2 k m_a0.f2_Log) hr
       refine g_lenP 1 [2] (l := m_a0.f2_Log.map enc_S_api_Applied) rfl rfl (asl rfl) fun hla2 => ?_
       simp only [List.length_map] at hla2
       refine g_blockJ (fun env σ => ∃ (u_17 : Value), env = [(3, .own u_17 (l_14.map encA))] ∧ σ = [.row u_17 l_14.length 107 2] ∧ kk2 = some res) ?_ (fun HK2 => ?_)
       ·
        rintro _ _ ⟨u_17, rfl, rfl, hr⟩
        rw [hkk2] at hr
        refine g_seq ?_
        refine g_run (by kernel_rfl) [(0, .d), (1, .d), (2, .d), (3, .d)] rfl ?_
        refine r_d rfl rfl rfl (s_move rfl rfl) ?_
        obtain ⟨r_18, hr_18, hr⟩ := bindS hr
        refine r_d rfl rfl rfl (s_callD rfl cl_constraintref03_GreatAtoms (.cons rfl (Wk.own _ _) (.cons rfl (Wk.refl _) .nil)) (lg_constraintref03_GreatAtoms _ _ _ hr_18)) ?_
        refine r_d rfl rfl rfl (s_not rfl rfl) ?_
        refine r_d rfl rfl rfl (s_assign rfl rfl) ?_
        refine r_end ?_
        obtain rfl := Option.some.inj hr
        refine g_ret Tryz.func22 _ (.cons (resTmp rfl (Wk.refl _)) .nil) ?_
        rfl
       ·
        refine g_sub [(1, .ptr (enc_S_api_Memory m_a0)), (3, .own u_13 (l_14.map encA)), (6, .int .i64 ((0 : Nat) : Int))] (Sub.cons' rfl (Sub.cons' rfl (Sub.cons' rfl (Sub.nil _)))) ?_
        refine g_loop (fun n env σ => ∃ (i_16 : Nat) (u_15 : Value), (n = m_a0.f2_Log.length - i_16) ∧ (env = [(1, .ptr (enc_S_api_Memory m_a0)), (3, .own u_15 (l_14.map encA)), (6, .int .i64 (i_16 : Int))]) ∧ (σ = [.row u_15 l_14.length 107 2]) ∧ (i_16 ≤ m_a0.f2_Log.length) ∧ (lf_constraintlaw52_few_L2 kk2 (m_a0.f2_Log.drop i_16) = some res)) _ ⟨0, u_13, rfl, rfl, rfl, Nat.zero_le _, hr⟩ ?_
        rintro n _ _ ⟨i_16, u_15, rfl, rfl, rfl, hi2, hr⟩ IH2
        rcases listStep m_a0.f2_Log i_16 hi2 with ⟨ht2, hd2, he2⟩ | ⟨q_19, ht2, hd2, hq2, hlt2⟩
        ·
         rw [hd2, lf_constraintlaw52_few_L2] at hr
         refine g_seq ?_
         refine g_seq ?_
         refine g_run (by kernel_rfl) [(0, .d), (1, .d), (2, .d), (3, .d), (4, .d)] rfl ?_
         refine r_d rfl rfl rfl (s_move rfl rfl) ?_
         refine r_d rfl rfl rfl (s_fieldAddr rfl fl_api_Memory_2 rfl rfl rfl rfl) ?_
         refine r_d rfl rfl rfl (s_load rfl rfl (by exact ty_L_api_Applied) rfl) ?_
         refine r_d rfl rfl rfl (m_len (f := enc_S_api_Applied) m_a0.f2_Log rfl el_L_api_Applied rfl (asl rfl)) ?_
         refine r_d rfl rfl rfl (s_cmp rfl rfl rfl rfl) ?_
         refine r_end ?_
         refine g_known 76 false rfl ht2 ?_
         refine g_condF rfl ?_
         refine g_exit rfl ?_
         refine g_sub [(3, .own u_15 (l_14.map encA))] (Sub.cons' rfl (Sub.nil _)) ?_
         exact HK2 _ _ ⟨u_15, rfl, rfl, hr⟩
        ·
         rw [hd2, lf_constraintlaw52_few_L2] at hr
         refine g_seq ?_
         refine g_seq ?_
         refine g_run (by kernel_rfl) [(0, .d), (1, .d), (2, .d), (3, .d), (4, .d)] rfl ?_
         refine r_d rfl rfl rfl (s_move rfl rfl) ?_
         refine r_d rfl rfl rfl (s_fieldAddr rfl fl_api_Memory_2 rfl rfl rfl rfl) ?_
         refine r_d rfl rfl rfl (s_load rfl rfl (by exact ty_L_api_Applied) rfl) ?_
         refine r_d rfl rfl rfl (m_len (f := enc_S_api_Applied) m_a0.f2_Log rfl el_L_api_Applied rfl (asl rfl)) ?_
         refine r_d rfl rfl rfl (s_cmp rfl rfl rfl rfl) ?_
         refine r_end ?_
         refine g_known 76 true rfl ht2 ?_
         refine g_condT rfl ?_
         refine g_skip ?_
         refine g_seq ?_
         refine g_block ?_
         refine g_seq ?_
         refine g_run (by kernel_rfl) [(0, .d), (1, .d), (2, .d), (3, .d), (4, .d), (5, .w), (6, .w)] rfl ?_
         refine r_d rfl rfl rfl (s_fieldAddr rfl fl_api_Memory_2 rfl rfl rfl rfl) ?_
         refine r_d rfl rfl rfl (s_load rfl rfl (by exact ty_L_api_Applied) rfl) ?_
         refine r_d rfl rfl rfl (s_move rfl rfl) ?_
         refine r_d rfl rfl rfl (m_index (f := enc_S_api_Applied) m_a0.f2_Log rfl el_L_api_Applied rfl (asl rfl) rfl hq2 sz_S_api_Applied rfl) ?_
         refine r_d rfl rfl rfl (s_load rfl rfl (by exact ty_api_Applied) (sz_S_api_Applied _)) ?_
         refine r_w rfl rfl rfl (s_alloc rfl zv_api_Applied) ?_
         rintro _ _ ⟨b7_19, rfl, rfl⟩
         refine r_w01 rfl rfl rfl (t_store0 _ rfl rfl rfl (Wk.refl _) (pf0 _) (by exact ty_api_Applied) (sz_S_api_Applied _) rfl rfl) ?_
         refine r_end ?_
         refine g_freeze 7 b7_19 rfl (pf0 _) ?_
         refine g_seq ?_
         refine g_run (by kernel_rfl) [(0, .d), (1, .d), (2, .d), (3, .d), (4, .d), (5, .d), (6, .d), (7, .d), (8, .d), (9, .d), (10, .d), (11, .d), (12, .d), (13, .d), (14, .d), (15, .d), (16, .d), (17, .d), (18, .d), (19, .d), (20, .d), (21, .d)] rfl ?_
         refine r_d rfl rfl rfl (s_fieldAddr rfl fl_api_Applied_1 rfl rfl rfl rfl) ?_
         refine r_d rfl rfl rfl (s_load rfl rfl (by exact ty_L_int) rfl) ?_
         refine r_d rfl rfl rfl (m_len (f := (D.int .i64)) q_19.f1_Heads rfl el_L_int rfl (asl rfl)) ?_
         refine r_d rfl rfl rfl (s_cmp rfl rfl rfl rfl) ?_
         refine r_d rfl rfl rfl (s_move rfl rfl) ?_
         refine r_sB 88 rfl hr (fun h88_20 hr => ?_) (fun h88_20 hr => ?_)
         ·
          refine r_skip rfl rfl rfl ?_
          refine r_skip rfl rfl rfl ?_
          refine r_skip rfl rfl rfl ?_
          refine r_skip rfl rfl rfl ?_
          refine r_d rfl rfl rfl (s_pickT rfl rfl rfl) ?_
          refine r_d rfl rfl rfl (s_move rfl rfl) ?_
          refine r_skip rfl rfl rfl ?_
          refine r_skip rfl rfl rfl ?_
          refine r_skip rfl rfl rfl ?_
          refine r_skip rfl rfl rfl ?_
          refine r_d rfl rfl rfl (s_pickT rfl rfl rfl) ?_
          refine r_d rfl rfl rfl (s_move rfl rfl) ?_
          refine r_skip rfl rfl rfl ?_
          refine r_skip rfl rfl rfl ?_
          refine r_skip rfl rfl rfl ?_
          refine r_skip rfl rfl rfl ?_
          refine r_d rfl rfl rfl (s_pickT rfl rfl rfl) ?_
          refine r_end ?_
          refine g_condT rfl ?_
          refine g_seq ?_
          refine g_run (by kernel_rfl) [(0, .d)] rfl ?_
          refine r_d rfl rfl rfl (s_assign rfl rfl) ?_
          refine r_end ?_
          obtain rfl := Option.some.inj hr
          refine g_ret Tryz.func22 _ (.cons (resTmp rfl (Wk.refl _)) .nil) ?_
          rfl
         ·
          refine r_d rfl rfl rfl (s_fieldAddr rfl fl_api_Applied_2 rfl rfl rfl rfl) ?_
          refine r_d rfl rfl rfl (s_load rfl rfl (by exact ty_L_int) rfl) ?_
          refine r_d rfl rfl rfl (m_len (f := (D.int .i64)) q_19.f2_Gone rfl el_L_int rfl (asl rfl)) ?_
          refine r_d rfl rfl rfl (s_cmp rfl rfl rfl rfl) ?_
          refine r_d rfl rfl rfl (s_pickF rfl rfl rfl) ?_
          refine r_d rfl rfl rfl (s_move rfl rfl) ?_
          refine r_sB 94 rfl hr (fun h94_21 hr => ?_) (fun h94_21 hr => ?_)
          ·
           refine r_skip rfl rfl rfl ?_
           refine r_skip rfl rfl rfl ?_
           refine r_skip rfl rfl rfl ?_
           refine r_skip rfl rfl rfl ?_
           refine r_d rfl rfl rfl (s_pickT rfl rfl rfl) ?_
           refine r_d rfl rfl rfl (s_move rfl rfl) ?_
           refine r_skip rfl rfl rfl ?_
           refine r_skip rfl rfl rfl ?_
           refine r_skip rfl rfl rfl ?_
           refine r_skip rfl rfl rfl ?_
           refine r_d rfl rfl rfl (s_pickT rfl rfl rfl) ?_
           refine r_end ?_
           refine g_condT rfl ?_
           refine g_seq ?_
           refine g_run (by kernel_rfl) [(0, .d)] rfl ?_
           refine r_d rfl rfl rfl (s_assign rfl rfl) ?_
           refine r_end ?_
           obtain rfl := Option.some.inj hr
           refine g_ret Tryz.func22 _ (.cons (resTmp rfl (Wk.refl _)) .nil) ?_
           rfl
          ·
           refine r_d rfl rfl rfl (s_fieldAddr rfl fl_api_Applied_3 rfl rfl rfl rfl) ?_
           refine r_d rfl rfl rfl (s_load rfl rfl (by exact ty_L_int) rfl) ?_
           refine r_d rfl rfl rfl (m_len (f := (D.int .i64)) q_19.f3_Made rfl el_L_int rfl (asl rfl)) ?_
           refine r_d rfl rfl rfl (s_cmp rfl rfl rfl rfl) ?_
           refine r_d rfl rfl rfl (s_pickF rfl rfl rfl) ?_
           refine r_d rfl rfl rfl (s_move rfl rfl) ?_
           refine r_sB 100 rfl hr (fun h100_22 hr => ?_) (fun h100_22 hr => ?_)
           ·
            refine r_skip rfl rfl rfl ?_
            refine r_skip rfl rfl rfl ?_
            refine r_skip rfl rfl rfl ?_
            refine r_skip rfl rfl rfl ?_
            refine r_d rfl rfl rfl (s_pickT rfl rfl rfl) ?_
            refine r_end ?_
            refine g_condT rfl ?_
            refine g_seq ?_
            refine g_run (by kernel_rfl) [(0, .d)] rfl ?_
            refine r_d rfl rfl rfl (s_assign rfl rfl) ?_
            refine r_end ?_
            obtain rfl := Option.some.inj hr
            refine g_ret Tryz.func22 _ (.cons (resTmp rfl (Wk.refl _)) .nil) ?_
            rfl
           ·
            refine r_d rfl rfl rfl (s_fieldAddr rfl fl_api_Applied_5 rfl rfl rfl rfl) ?_
            refine r_d rfl rfl rfl (s_load rfl rfl (by exact ty_L_int) rfl) ?_
            refine r_d rfl rfl rfl (m_len (f := (D.int .i64)) q_19.f5_Just rfl el_L_int rfl (asl rfl)) ?_
            refine r_d rfl rfl rfl (s_cmp rfl rfl rfl rfl) ?_
            refine r_d rfl rfl rfl (s_pickF rfl rfl rfl) ?_
            refine r_end ?_
            refine g_sB 105 rfl hr (fun h105_23 hr => ?_) (fun h105_23 hr => ?_)
            ·
             refine g_condT rfl ?_
             refine g_seq ?_
             refine g_run (by kernel_rfl) [(0, .d)] rfl ?_
             refine r_d rfl rfl rfl (s_assign rfl rfl) ?_
             refine r_end ?_
             obtain rfl := Option.some.inj hr
             refine g_ret Tryz.func22 _ (.cons (resTmp rfl (Wk.refl _)) .nil) ?_
             rfl
            ·
             refine g_condF rfl ?_
             refine g_skip ?_
             refine g_inBlock ?_
             refine g_run (by kernel_rfl) [(0, .d), (1, .d), (2, .d)] rfl ?_
             refine r_d rfl rfl rfl (s_move rfl rfl) ?_
             refine r_d rfl rfl rfl (s_ar (r := ((i_16 + 1 : Nat) : Int)) rfl rfl rfl (by simp [iar]) (by omega)) ?_
             refine r_d rfl rfl rfl (s_assign rfl rfl) ?_
             refine r_end ?_
             refine g_sub [(1, .ptr (enc_S_api_Memory m_a0)), (3, .own u_15 (l_14.map encA)), (6, .int .i64 ((i_16 + 1 : Nat) : Int))] (Sub.cons' rfl (Sub.cons' rfl (Sub.cons' rfl (Sub.nil _)))) ?_
             exact IH2 _ _ _ (by omega) ⟨(i_16 + 1), u_15, rfl, rfl, rfl, (by omega), hr⟩
      ·
       refine g_sub [(1, .ptr (enc_S_api_Memory m_a0)), (3, .own u_8 (l_9.map encA)), (5, .int .i64 ((0 : Nat) : Int))] (Sub.cons' rfl (Sub.cons' rfl (Sub.cons' rfl (Sub.nil _)))) ?_
       refine g_loop (fun n env σ => ∃ (l_11 : (List At)) (i_12 : Nat) (u_10 : Value), (n = m_a0.f1_Past.length - i_12) ∧ (env = [(1, .ptr (enc_S_api_Memory m_a0)), (3, .own u_10 (l_11.map encA)), (5, .int .i64 (i_12 : Int))]) ∧ (σ = [.row u_10 l_11.length 107 2]) ∧ (i_12 ≤ m_a0.f1_Past.length) ∧ (lf_constraintlaw52_few_L1 kk1 (m_a0.f1_Past.drop i_12) l_11 = some res)) _ ⟨l_9, 0, u_8, rfl, rfl, rfl, Nat.zero_le _, hr⟩ ?_
       rintro n _ _ ⟨l_11, i_12, u_10, rfl, rfl, rfl, hi1, hr⟩ IH1
       rcases listStep m_a0.f1_Past i_12 hi1 with ⟨ht1, hd1, he1⟩ | ⟨q_25, ht1, hd1, hq1, hlt1⟩
       ·
        rw [hd1, lf_constraintlaw52_few_L1] at hr
        refine g_seq ?_
        refine g_seq ?_
        refine g_run (by kernel_rfl) [(0, .d), (1, .d), (2, .d), (3, .d), (4, .d)] rfl ?_
        refine r_d rfl rfl rfl (s_move rfl rfl) ?_
        refine r_d rfl rfl rfl (s_fieldAddr rfl fl_api_Memory_1 rfl rfl rfl rfl) ?_
        refine r_d rfl rfl rfl (s_load rfl rfl (by exact ty_L_api_Fact) rfl) ?_
        refine r_d rfl rfl rfl (m_len (f := enc_S_api_Fact) m_a0.f1_Past rfl el_L_api_Fact rfl (asl rfl)) ?_
        refine r_d rfl rfl rfl (s_cmp rfl rfl rfl rfl) ?_
        refine r_end ?_
        refine g_known 52 false rfl ht1 ?_
        refine g_condF rfl ?_
        refine g_exit rfl ?_
        refine g_sub [(1, .ptr (enc_S_api_Memory m_a0)), (3, .own u_10 (l_11.map encA))] (Sub.cons' rfl (Sub.cons' rfl (Sub.nil _))) ?_
        exact HK1 _ _ ⟨l_11, u_10, rfl, rfl, hr⟩
       ·
        rw [hd1, lf_constraintlaw52_few_L1] at hr
        refine g_seq ?_
        refine g_seq ?_
        refine g_run (by kernel_rfl) [(0, .d), (1, .d), (2, .d), (3, .d), (4, .d)] rfl ?_
        refine r_d rfl rfl rfl (s_move rfl rfl) ?_
        refine r_d rfl rfl rfl (s_fieldAddr rfl fl_api_Memory_1 rfl rfl rfl rfl) ?_
        refine r_d rfl rfl rfl (s_load rfl rfl (by exact ty_L_api_Fact) rfl) ?_
        refine r_d rfl rfl rfl (m_len (f := enc_S_api_Fact) m_a0.f1_Past rfl el_L_api_Fact rfl (asl rfl)) ?_
        refine r_d rfl rfl rfl (s_cmp rfl rfl rfl rfl) ?_
        refine r_end ?_
        refine g_known 52 true rfl ht1 ?_
        refine g_condT rfl ?_
        refine g_skip ?_
        refine g_seq ?_
        refine g_block ?_
        refine g_seq ?_
        refine g_run (by kernel_rfl) [(0, .d), (1, .d), (2, .d), (3, .d), (4, .d), (5, .d), (6, .d), (7, .d), (8, .w), (9, .d)] rfl ?_
        refine r_d rfl rfl rfl (s_move rfl rfl) ?_
        refine r_d rfl rfl rfl (s_fieldAddr rfl fl_api_Memory_1 rfl rfl rfl rfl) ?_
        refine r_d rfl rfl rfl (s_load rfl rfl (by exact ty_L_api_Fact) rfl) ?_
        refine r_d rfl rfl rfl (s_move rfl rfl) ?_
        refine r_d rfl rfl rfl (m_index (f := enc_S_api_Fact) m_a0.f1_Past rfl el_L_api_Fact rfl (asl rfl) rfl hq1 sz_S_api_Fact rfl) ?_
        refine r_d rfl rfl rfl (s_fieldAddr rfl fl_api_Fact_1 rfl rfl rfl rfl) ?_
        refine r_d rfl rfl rfl (s_load rfl rfl (by exact ty_api_Atom) (sz_encA _)) ?_
        refine r_d rfl rfl rfl (m_lit (f := encA) [.tmp 61] [q_25.f1_Atom] rfl el_L_api_Atom rfl rfl (by decide) (by decide) (.cons rfl (Wk.refl _) .nil) sz_encA (fun _ => rfl)) ?_
        obtain ⟨l_26, hl_26, hr⟩ := bindS hr
        refine r_w rfl rfl rfl (m_appOwn (f := encA) l_11 [q_25.f1_Atom] rfl el_L_api_Atom rfl rfl (asl rfl) (pf0 _) rfl sz_encA hl_26) ?_
        rintro _ _ ⟨u63_26, rfl, rfl⟩
        refine r_d rfl rfl rfl (s_assign rfl rfl) ?_
        refine r_end ?_
        refine g_seq ?_
        refine g_run (by kernel_rfl) [(0, .d), (1, .d), (2, .d), (3, .d), (4, .d), (5, .d), (6, .d), (7, .d)] rfl ?_
        refine r_d rfl rfl rfl (s_fieldAddr rfl fl_api_Memory_1 rfl rfl rfl rfl) ?_
        refine r_d rfl rfl rfl (s_load rfl rfl (by exact ty_L_api_Fact) rfl) ?_
        refine r_d rfl rfl rfl (s_move rfl rfl) ?_
        refine r_d rfl rfl rfl (m_index (f := enc_S_api_Fact) m_a0.f1_Past rfl el_L_api_Fact rfl (asl rfl) rfl hq1 sz_S_api_Fact rfl) ?_
        refine r_d rfl rfl rfl (s_fieldAddr rfl fl_api_Fact_2 rfl rfl (by simp [szs, sz, sz_encA]) rfl) ?_
        refine r_d rfl rfl rfl (s_load rfl rfl (by exact ty_L_int) rfl) ?_
        refine r_d rfl rfl rfl (m_len (f := (D.int .i64)) q_25.f2_Just rfl el_L_int rfl (asl rfl)) ?_
        refine r_d rfl rfl rfl (s_cmp rfl rfl rfl rfl) ?_
        refine r_end ?_
        refine g_sB 71 rfl hr (fun h71_27 hr => ?_) (fun h71_27 hr => ?_)
        ·
         refine g_condT rfl ?_
         refine g_seq ?_
         refine g_run (by kernel_rfl) [(0, .d)] rfl ?_
         refine r_d rfl rfl rfl (s_assign rfl rfl) ?_
         refine r_end ?_
         obtain rfl := Option.some.inj hr
         refine g_ret Tryz.func22 _ (.cons (resTmp rfl (Wk.refl _)) .nil) ?_
         rfl
        ·
         refine g_condF rfl ?_
         refine g_skip ?_
         refine g_inBlock ?_
         refine g_run (by kernel_rfl) [(0, .d), (1, .d), (2, .d)] rfl ?_
         refine r_d rfl rfl rfl (s_move rfl rfl) ?_
         refine r_d rfl rfl rfl (s_ar (r := ((i_12 + 1 : Nat) : Int)) rfl rfl rfl (by simp [iar]) (by omega)) ?_
         refine r_d rfl rfl rfl (s_assign rfl rfl) ?_
         refine r_end ?_
         refine g_sub [(1, .ptr (enc_S_api_Memory m_a0)), (3, .own u63_26 (l_26.map encA)), (5, .int .i64 ((i_12 + 1 : Nat) : Int))] (Sub.cons' rfl (Sub.cons' rfl (Sub.cons' rfl (Sub.nil _)))) ?_
         exact IH1 _ _ _ (by omega) ⟨l_26, (i_12 + 1), u63_26, rfl, rfl, rfl, (by omega), hr⟩
     ·
      refine g_sub [(1, .ptr (enc_S_api_Memory m_a0)), (3, .own u3_3 ([].map encA)), (4, .int .i64 ((0 : Nat) : Int))] (Sub.cons' rfl (Sub.cons' rfl (Sub.cons' rfl (Sub.nil _)))) ?_
      refine g_loop (fun n env σ => ∃ (l_6 : (List At)) (i_7 : Nat) (u_5 : Value), (n = m_a0.f0_Facts.length - i_7) ∧ (env = [(1, .ptr (enc_S_api_Memory m_a0)), (3, .own u_5 (l_6.map encA)), (4, .int .i64 (i_7 : Int))]) ∧ (σ = [.row u_5 l_6.length 107 2]) ∧ (i_7 ≤ m_a0.f0_Facts.length) ∧ (lf_constraintlaw52_few_L0 kk0 (m_a0.f0_Facts.drop i_7) l_6 = some res)) _ ⟨[], 0, u3_3, rfl, rfl, rfl, Nat.zero_le _, hr⟩ ?_
      rintro n _ _ ⟨l_6, i_7, u_5, rfl, rfl, rfl, hi0, hr⟩ IH0
      rcases listStep m_a0.f0_Facts i_7 hi0 with ⟨ht0, hd0, he0⟩ | ⟨q_29, ht0, hd0, hq0, hlt0⟩
      ·
       rw [hd0, lf_constraintlaw52_few_L0] at hr
       refine g_seq ?_
       refine g_seq ?_
       refine g_run (by kernel_rfl) [(0, .d), (1, .d), (2, .d), (3, .d), (4, .d)] rfl ?_
       refine r_d rfl rfl rfl (s_move rfl rfl) ?_
       refine r_d rfl rfl rfl (s_fieldAddr rfl fl_api_Memory_0 rfl rfl rfl rfl) ?_
       refine r_d rfl rfl rfl (s_load rfl rfl (by exact ty_L_api_Fact) rfl) ?_
       refine r_d rfl rfl rfl (m_len (f := enc_S_api_Fact) m_a0.f0_Facts rfl el_L_api_Fact rfl (asl rfl)) ?_
       refine r_d rfl rfl rfl (s_cmp rfl rfl rfl rfl) ?_
       refine r_end ?_
       refine g_known 28 false rfl ht0 ?_
       refine g_condF rfl ?_
       refine g_exit rfl ?_
       refine g_sub [(1, .ptr (enc_S_api_Memory m_a0)), (3, .own u_5 (l_6.map encA))] (Sub.cons' rfl (Sub.cons' rfl (Sub.nil _))) ?_
       exact HK0 _ _ ⟨l_6, u_5, rfl, rfl, hr⟩
      ·
       rw [hd0, lf_constraintlaw52_few_L0] at hr
       refine g_seq ?_
       refine g_seq ?_
       refine g_run (by kernel_rfl) [(0, .d), (1, .d), (2, .d), (3, .d), (4, .d)] rfl ?_
       refine r_d rfl rfl rfl (s_move rfl rfl) ?_
       refine r_d rfl rfl rfl (s_fieldAddr rfl fl_api_Memory_0 rfl rfl rfl rfl) ?_
       refine r_d rfl rfl rfl (s_load rfl rfl (by exact ty_L_api_Fact) rfl) ?_
       refine r_d rfl rfl rfl (m_len (f := enc_S_api_Fact) m_a0.f0_Facts rfl el_L_api_Fact rfl (asl rfl)) ?_
       refine r_d rfl rfl rfl (s_cmp rfl rfl rfl rfl) ?_
       refine r_end ?_
       refine g_known 28 true rfl ht0 ?_
       refine g_condT rfl ?_
       refine g_skip ?_
       refine g_seq ?_
       refine g_block ?_
       refine g_seq ?_
       refine g_run (by kernel_rfl) [(0, .d), (1, .d), (2, .d), (3, .d), (4, .d), (5, .d), (6, .d), (7, .d), (8, .w), (9, .d)] rfl ?_
       refine r_d rfl rfl rfl (s_move rfl rfl) ?_
       refine r_d rfl rfl rfl (s_fieldAddr rfl fl_api_Memory_0 rfl rfl rfl rfl) ?_
       refine r_d rfl rfl rfl (s_load rfl rfl (by exact ty_L_api_Fact) rfl) ?_
       refine r_d rfl rfl rfl (s_move rfl rfl) ?_
       refine r_d rfl rfl rfl (m_index (f := enc_S_api_Fact) m_a0.f0_Facts rfl el_L_api_Fact rfl (asl rfl) rfl hq0 sz_S_api_Fact rfl) ?_
       refine r_d rfl rfl rfl (s_fieldAddr rfl fl_api_Fact_1 rfl rfl rfl rfl) ?_
       refine r_d rfl rfl rfl (s_load rfl rfl (by exact ty_api_Atom) (sz_encA _)) ?_
       refine r_d rfl rfl rfl (m_lit (f := encA) [.tmp 37] [q_29.f1_Atom] rfl el_L_api_Atom rfl rfl (by decide) (by decide) (.cons rfl (Wk.refl _) .nil) sz_encA (fun _ => rfl)) ?_
       obtain ⟨l_30, hl_30, hr⟩ := bindS hr
       refine r_w rfl rfl rfl (m_appOwn (f := encA) l_6 [q_29.f1_Atom] rfl el_L_api_Atom rfl rfl (asl rfl) (pf0 _) rfl sz_encA hl_30) ?_
       rintro _ _ ⟨u39_30, rfl, rfl⟩
       refine r_d rfl rfl rfl (s_assign rfl rfl) ?_
       refine r_end ?_
       refine g_seq ?_
       refine g_run (by kernel_rfl) [(0, .d), (1, .d), (2, .d), (3, .d), (4, .d), (5, .d), (6, .d), (7, .d)] rfl ?_
       refine r_d rfl rfl rfl (s_fieldAddr rfl fl_api_Memory_0 rfl rfl rfl rfl) ?_
       refine r_d rfl rfl rfl (s_load rfl rfl (by exact ty_L_api_Fact) rfl) ?_
       refine r_d rfl rfl rfl (s_move rfl rfl) ?_
       refine r_d rfl rfl rfl (m_index (f := enc_S_api_Fact) m_a0.f0_Facts rfl el_L_api_Fact rfl (asl rfl) rfl hq0 sz_S_api_Fact rfl) ?_
       refine r_d rfl rfl rfl (s_fieldAddr rfl fl_api_Fact_2 rfl rfl (by simp [szs, sz, sz_encA]) rfl) ?_
       refine r_d rfl rfl rfl (s_load rfl rfl (by exact ty_L_int) rfl) ?_
       refine r_d rfl rfl rfl (m_len (f := (D.int .i64)) q_29.f2_Just rfl el_L_int rfl (asl rfl)) ?_
       refine r_d rfl rfl rfl (s_cmp rfl rfl rfl rfl) ?_
       refine r_end ?_
       refine g_sB 47 rfl hr (fun h47_31 hr => ?_) (fun h47_31 hr => ?_)
       ·
        refine g_condT rfl ?_
        refine g_seq ?_
        refine g_run (by kernel_rfl) [(0, .d)] rfl ?_
        refine r_d rfl rfl rfl (s_assign rfl rfl) ?_
        refine r_end ?_
        obtain rfl := Option.some.inj hr
        refine g_ret Tryz.func22 _ (.cons (resTmp rfl (Wk.refl _)) .nil) ?_
        rfl
       ·
        refine g_condF rfl ?_
        refine g_skip ?_
        refine g_inBlock ?_
        refine g_run (by kernel_rfl) [(0, .d), (1, .d), (2, .d)] rfl ?_
        refine r_d rfl rfl rfl (s_move rfl rfl) ?_
        refine r_d rfl rfl rfl (s_ar (r := ((i_7 + 1 : Nat) : Int)) rfl rfl rfl (by simp [iar]) (by omega)) ?_
        refine r_d rfl rfl rfl (s_assign rfl rfl) ?_
        refine r_end ?_
        refine g_sub [(1, .ptr (enc_S_api_Memory m_a0)), (3, .own u39_30 (l_30.map encA)), (4, .int .i64 ((i_7 + 1 : Nat) : Int))] (Sub.cons' rfl (Sub.cons' rfl (Sub.cons' rfl (Sub.nil _)))) ?_
        exact IH0 _ _ _ (by omega) ⟨l_30, (i_7 + 1), u39_30, rfl, rfl, rfl, (by omega), hr⟩

noncomputable def lf_snapshot_TakeMemory (fuel : Nat) (b_a0 : (List Int)) : Option (S_api_Memory × Int) :=
  ((lf_wholeR_Memory fuel b_a0 3).bind fun r_2 =>
  some (r_2.1, r_2.2))

set_option maxHeartbeats 1000000 in
theorem lg_snapshot_TakeMemory (fuel : Nat) (b_a0 : (List Int)) (res : S_api_Memory × Int) (hr : lf_snapshot_TakeMemory fuel b_a0 = some res) : Gives Tryz.prog 27 [.lst (b_a0.map (D.int .u8))] (.tup [enc_S_api_Memory res.1, .int .i64 res.2]) := by
  unfold lf_snapshot_TakeMemory at hr
  refine spec_env [(0, .lst (b_a0.map (D.int .u8)))] Tryz.func27 rfl rfl fun K hK => ?_
  refine g_seq ?_
  refine g_run (by kernel_rfl) [(0, .w), (1, .d)] rfl ?_
  refine r_w rfl rfl rfl (s_alloc rfl zv_api_Memory) ?_
  rintro _ _ ⟨b2_0, rfl, rfl⟩
  refine r_d rfl rfl rfl (s_assign rfl rfl) ?_
  refine r_end ?_
  refine g_seq ?_
  refine g_run (by kernel_rfl) [(0, .d), (1, .d), (2, .d), (3, .d), (4, .w), (5, .d)] rfl ?_
  refine r_d rfl rfl rfl (s_move rfl rfl) ?_
  obtain ⟨r_2, hr_2, hr⟩ := bindS hr
  refine r_d rfl rfl rfl (s_callD rfl cl_snapshot_whole_api_Memory (.cons rfl (Wk.refl _) (.cons rfl (Wk.refl _) (.cons rfl (Wk.refl _) (.cons rfl (Wk.refl _) .nil)))) (lg_wholeR_Memory fuel _ _ _ hr_2)) ?_
  refine r_d rfl rfl rfl (s_extract rfl rfl rfl) ?_
  refine r_d rfl rfl rfl (s_extract rfl rfl rfl) ?_
  refine r_w01 rfl rfl rfl (t_store0 _ rfl rfl rfl (Wk.refl _) (pf0 _) (by exact ty_api_Memory) (sz_S_api_Memory _) rfl rfl) ?_
  refine r_d rfl rfl rfl (s_assign rfl rfl) ?_
  refine r_end ?_
  obtain rfl := Option.some.inj hr
  refine g_ret Tryz.func27 _ (.cons (resRef rfl (.head _) (by exact ty_api_Memory) (sz_S_api_Memory _) (Wk.refl _)) (.cons (resTmp rfl (Wk.refl _)) .nil)) ?_
  rfl

noncomputable def lf_constraintref03_SameInts_L0 (k : Option (Bool)) (b_a1 : (List Int)) : List Int → Nat → Option (Bool)
  | [], i_2 =>
  k
  | q_3 :: rest, i_2 =>
  (bif (decide ((i_2 : Int) < (b_a1.length : Int))) then
  ((getI b_a1 (i_2 : Int)).bind fun q_5 =>
  (bif (q_3 != q_5) then
  some (false)
  else
  (lf_constraintref03_SameInts_L0 k b_a1 rest (i_2 + 1))))
  else
  k)
noncomputable def lf_constraintref03_SameInts (a_a0 : (List Int)) (b_a1 : (List Int)) : Option (Bool) :=
  (bif ((a_a0.length : Int) != (b_a1.length : Int)) then
  some (false)
  else
  (lf_constraintref03_SameInts_L0 (some (true)) b_a1 a_a0 0))

set_option maxHeartbeats 1000000 in
theorem lg_constraintref03_SameInts (a_a0 : (List Int)) (b_a1 : (List Int)) (res : Bool) (hr : lf_constraintref03_SameInts a_a0 b_a1 = some res) : Gives Tryz.prog 226 [.lst (a_a0.map (D.int .i64)), .lst (b_a1.map (D.int .i64))] (.bool res) := by
  unfold lf_constraintref03_SameInts at hr
  refine spec_env [(0, .lst (a_a0.map (D.int .i64))), (1, .lst (b_a1.map (D.int .i64)))] Tryz.func226 rfl rfl fun K hK => ?_
  refine g_seq ?_
  refine g_run (by kernel_rfl) [(0, .d)] rfl ?_
  refine r_d rfl rfl rfl (s_assign rfl rfl) ?_
  refine r_end ?_
  refine g_seq ?_
  refine g_seq ?_
  refine g_run (by kernel_rfl) [(0, .d), (1, .d), (2, .d), (3, .d), (4, .d)] rfl ?_
  refine r_d rfl rfl rfl (s_move rfl rfl) ?_
  refine r_d rfl rfl rfl (m_len (f := (D.int .i64)) a_a0 rfl el_L_int rfl (asl rfl)) ?_
  refine r_d rfl rfl rfl (s_move rfl rfl) ?_
  refine r_d rfl rfl rfl (m_len (f := (D.int .i64)) b_a1 rfl el_L_int rfl (asl rfl)) ?_
  refine r_d rfl rfl rfl (s_cmp rfl rfl rfl rfl) ?_
  refine r_end ?_
  refine g_sB 10 rfl hr (fun h10_0 hr => ?_) (fun h10_0 hr => ?_)
  ·
   refine g_condT rfl ?_
   refine g_seq ?_
   refine g_run (by kernel_rfl) [(0, .d)] rfl ?_
   refine r_d rfl rfl rfl (s_assign rfl rfl) ?_
   refine r_end ?_
   obtain rfl := Option.some.inj hr
   refine g_ret Tryz.func226 _ (.cons (resTmp rfl (Wk.refl _)) .nil) ?_
   rfl
  ·
   refine g_condF rfl ?_
   refine g_skip ?_
   refine g_seq ?_
   refine g_seq ?_
   refine g_run (by kernel_rfl) [(0, .d)] rfl ?_
   refine r_d rfl rfl rfl (s_assign rfl rfl) ?_
   refine r_end ?_
   obtain ⟨kk0, hkk0, hr⟩ := exK (fun k => lf_constraintref03_SameInts_L0 k b_a1 a_a0 0) hr
   refine g_len 0 rfl (asl rfl) fun hla0 => ?_
   simp only [List.length_map] at hla0
   refine g_blockJ (fun env σ => env = [] ∧ σ = [] ∧ kk0 = some res) ?_ (fun HK0 => ?_)
   ·
    rintro _ _ ⟨rfl, rfl, hr⟩
    rw [hkk0] at hr
    refine g_seq ?_
    refine g_run (by kernel_rfl) [(0, .d)] rfl ?_
    refine r_d rfl rfl rfl (s_assign rfl rfl) ?_
    refine r_end ?_
    obtain rfl := Option.some.inj hr
    refine g_ret Tryz.func226 _ (.cons (resTmp rfl (Wk.refl _)) .nil) ?_
    rfl
   ·
    refine g_sub [(0, .lst (a_a0.map (D.int .i64))), (1, .lst (b_a1.map (D.int .i64))), (5, .int .i64 ((0 : Nat) : Int))] (Sub.cons' rfl (Sub.cons' rfl (Sub.cons' rfl (Sub.nil _)))) ?_
    refine g_loop (fun n env σ => ∃ (i_2 : Nat), (n = a_a0.length - i_2) ∧ (env = [(0, .lst (a_a0.map (D.int .i64))), (1, .lst (b_a1.map (D.int .i64))), (5, .int .i64 (i_2 : Int))]) ∧ (σ = []) ∧ (i_2 ≤ a_a0.length) ∧ (lf_constraintref03_SameInts_L0 kk0 b_a1 (a_a0.drop i_2) i_2 = some res)) _ ⟨0, rfl, rfl, rfl, Nat.zero_le _, hr⟩ ?_
    rintro n _ _ ⟨i_2, rfl, rfl, rfl, hi0, hr⟩ IH0
    rcases listStep a_a0 i_2 hi0 with ⟨ht0, hd0, he0⟩ | ⟨q_3, ht0, hd0, hq0, hlt0⟩
    ·
     rw [hd0, lf_constraintref03_SameInts_L0] at hr
     refine g_seq ?_
     refine g_seq ?_
     refine g_run (by kernel_rfl) [(0, .d), (1, .d), (2, .d), (3, .d), (4, .d), (5, .d), (6, .d), (7, .d), (8, .d), (9, .d)] rfl ?_
     refine r_d rfl rfl rfl (s_move rfl rfl) ?_
     refine r_d rfl rfl rfl (s_move rfl rfl) ?_
     refine r_d rfl rfl rfl (m_len (f := (D.int .i64)) a_a0 rfl el_L_int rfl (asl rfl)) ?_
     refine r_d rfl rfl rfl (s_cmp rfl rfl rfl rfl) ?_
     refine r_d rfl rfl rfl (s_move rfl rfl) ?_
     refine r_known 15 false rfl ht0 ?_
     refine r_skip rfl rfl rfl ?_
     refine r_skip rfl rfl rfl ?_
     refine r_skip rfl rfl rfl ?_
     refine r_skip rfl rfl rfl ?_
     refine r_d rfl rfl rfl (s_pickF rfl rfl rfl) ?_
     refine r_end ?_
     refine g_condF rfl ?_
     refine g_exit rfl ?_
     refine g_sub [] (Sub.nil _) ?_
     exact HK0 _ _ ⟨rfl, rfl, hr⟩
    ·
     rw [hd0, lf_constraintref03_SameInts_L0] at hr
     refine g_seq ?_
     refine g_seq ?_
     refine g_run (by kernel_rfl) [(0, .d), (1, .d), (2, .d), (3, .d), (4, .d), (5, .d), (6, .d), (7, .d), (8, .d), (9, .d)] rfl ?_
     refine r_d rfl rfl rfl (s_move rfl rfl) ?_
     refine r_d rfl rfl rfl (s_move rfl rfl) ?_
     refine r_d rfl rfl rfl (m_len (f := (D.int .i64)) a_a0 rfl el_L_int rfl (asl rfl)) ?_
     refine r_d rfl rfl rfl (s_cmp rfl rfl rfl rfl) ?_
     refine r_d rfl rfl rfl (s_move rfl rfl) ?_
     refine r_known 15 true rfl ht0 ?_
     refine r_d rfl rfl rfl (s_move rfl rfl) ?_
     refine r_d rfl rfl rfl (s_move rfl rfl) ?_
     refine r_d rfl rfl rfl (m_len (f := (D.int .i64)) b_a1 rfl el_L_int rfl (asl rfl)) ?_
     refine r_d rfl rfl rfl (s_cmp rfl rfl rfl rfl) ?_
     refine r_d rfl rfl rfl (s_pickT rfl rfl rfl) ?_
     refine r_end ?_
     refine g_sB 20 rfl hr (fun h20_3 hr => ?_) (fun h20_3 hr => ?_)
     ·
      refine g_condT rfl ?_
      refine g_skip ?_
      refine g_seq ?_
      refine g_block ?_
      refine g_seq ?_
      refine g_any (by kernel_rfl) (by kernel_rfl) [(0, .d), (1, .d), (2, .d), (3, .d), (4, .d), (5, .d), (6, .d), (7, .d), (8, .d)] (by kernel_rfl) ?_
      refine r_d rfl rfl rfl (s_move rfl rfl) ?_
      refine r_d rfl rfl rfl (s_move rfl rfl) ?_
      refine r_d rfl rfl rfl (m_index (f := (D.int .i64)) a_a0 rfl el_L_int rfl (asl rfl) rfl hq0 (fun _ => rfl) rfl) ?_
      refine r_d rfl rfl rfl (s_load rfl rfl (by exact ty_int) rfl) ?_
      refine r_d rfl rfl rfl (s_move rfl rfl) ?_
      refine r_d rfl rfl rfl (s_move rfl rfl) ?_
      obtain ⟨q_5, hq_5, hr⟩ := bindS hr
      refine r_d rfl rfl rfl (m_index (f := (D.int .i64)) b_a1 rfl el_L_int rfl (asl rfl) rfl hq_5 (fun _ => rfl) rfl) ?_
      refine r_d rfl rfl rfl (s_load rfl rfl (by exact ty_int) rfl) ?_
      refine r_d rfl rfl rfl (s_cmp rfl rfl rfl rfl) ?_
      refine r_end ?_
      refine g_sB 31 rfl hr (fun h31_5 hr => ?_) (fun h31_5 hr => ?_)
      ·
       refine g_condT rfl ?_
       refine g_seq ?_
       refine g_run (by kernel_rfl) [(0, .d)] rfl ?_
       refine r_d rfl rfl rfl (s_assign rfl rfl) ?_
       refine r_end ?_
       obtain rfl := Option.some.inj hr
       refine g_ret Tryz.func226 _ (.cons (resTmp rfl (Wk.refl _)) .nil) ?_
       rfl
      ·
       refine g_condF rfl ?_
       refine g_skip ?_
       refine g_inBlock ?_
       refine g_run (by kernel_rfl) [(0, .d), (1, .d), (2, .d)] rfl ?_
       refine r_d rfl rfl rfl (s_move rfl rfl) ?_
       refine r_d rfl rfl rfl (s_ar (r := ((i_2 + 1 : Nat) : Int)) rfl rfl rfl (by simp [iar]) (by omega)) ?_
       refine r_d rfl rfl rfl (s_assign rfl rfl) ?_
       refine r_end ?_
       refine g_sub [(0, .lst (a_a0.map (D.int .i64))), (1, .lst (b_a1.map (D.int .i64))), (5, .int .i64 ((i_2 + 1 : Nat) : Int))] (Sub.cons' rfl (Sub.cons' rfl (Sub.cons' rfl (Sub.nil _)))) ?_
       exact IH0 _ _ _ (by omega) ⟨(i_2 + 1), rfl, rfl, rfl, (by omega), hr⟩
     ·
      refine g_condF rfl ?_
      refine g_exit rfl ?_
      refine g_sub [] (Sub.nil _) ?_
      exact HK0 _ _ ⟨rfl, rfl, hr⟩

noncomputable def lf_constraintref49_Same (a_a0 : S_api_Fact) (b_a1 : S_api_Fact) : Option (Bool) :=
  (bif (a_a0.f0_ID == b_a1.f0_ID) then
  ((x_sameA a_a0.f1_Atom b_a1.f1_Atom).bind fun r_2 =>
  (bif r_2 then
  ((lf_constraintref03_SameInts a_a0.f2_Just b_a1.f2_Just).bind fun r_4 =>
  some (r_4))
  else
  some (false)))
  else
  some (false))

set_option maxHeartbeats 1000000 in
theorem lg_constraintref49_Same (a_a0 : S_api_Fact) (b_a1 : S_api_Fact) (res : Bool) (hr : lf_constraintref49_Same a_a0 b_a1 = some res) : Gives Tryz.prog 189 [enc_S_api_Fact a_a0, enc_S_api_Fact b_a1] (.bool res) := by
  unfold lf_constraintref49_Same at hr
  refine spec_env [(0, enc_S_api_Fact a_a0), (1, enc_S_api_Fact b_a1)] Tryz.func189 rfl rfl fun K hK => ?_
  refine g_seq ?_
  refine g_run (by kernel_rfl) [(0, .d), (1, .d), (2, .d)] rfl ?_
  refine r_d rfl rfl rfl (s_box rfl rfl rfl) ?_
  refine r_d rfl rfl rfl (s_box rfl rfl rfl) ?_
  refine r_d rfl rfl rfl (s_assign rfl rfl) ?_
  refine r_end ?_
  refine g_seq ?_
  refine g_run (by kernel_rfl) [(0, .d), (1, .d), (2, .d), (3, .d), (4, .d), (5, .d), (6, .d), (7, .d), (8, .d), (9, .d), (10, .d), (11, .d), (12, .d), (13, .d), (14, .d), (15, .d), (16, .d), (17, .d), (18, .d), (19, .d)] rfl ?_
  refine r_d rfl rfl rfl (s_fieldAddr rfl fl_api_Fact_0 rfl rfl rfl rfl) ?_
  refine r_d rfl rfl rfl (s_load rfl rfl (by exact ty_int) rfl) ?_
  refine r_d rfl rfl rfl (s_fieldAddr rfl fl_api_Fact_0 rfl rfl rfl rfl) ?_
  refine r_d rfl rfl rfl (s_load rfl rfl (by exact ty_int) rfl) ?_
  refine r_d rfl rfl rfl (s_cmp rfl rfl rfl rfl) ?_
  refine r_d rfl rfl rfl (s_move rfl rfl) ?_
  refine r_sB 10 rfl hr (fun h10_0 hr => ?_) (fun h10_0 hr => ?_)
  ·
   refine r_d rfl rfl rfl (s_fieldAddr rfl fl_api_Fact_1 rfl rfl rfl rfl) ?_
   refine r_d rfl rfl rfl (s_load rfl rfl (by exact ty_api_Atom) (sz_encA _)) ?_
   refine r_d rfl rfl rfl (s_fieldAddr rfl fl_api_Fact_1 rfl rfl rfl rfl) ?_
   refine r_d rfl rfl rfl (s_load rfl rfl (by exact ty_api_Atom) (sz_encA _)) ?_
   obtain ⟨r_2, hr_2, hr⟩ := bindS hr
   refine r_d rfl rfl rfl (s_callD rfl cl_constraintref03_SameAtom (.cons rfl (Wk.refl _) (.cons rfl (Wk.refl _) .nil)) (lx_constraintref03_SameAtom _ _ _ hr_2)) ?_
   refine r_d rfl rfl rfl (s_pickT rfl rfl rfl) ?_
   refine r_d rfl rfl rfl (s_move rfl rfl) ?_
   refine r_sB 17 rfl hr (fun h17_2 hr => ?_) (fun h17_2 hr => ?_)
   ·
    refine r_d rfl rfl rfl (s_fieldAddr rfl fl_api_Fact_2 rfl rfl (by simp [szs, sz, sz_encA]) rfl) ?_
    refine r_d rfl rfl rfl (s_load rfl rfl (by exact ty_L_int) rfl) ?_
    refine r_d rfl rfl rfl (s_fieldAddr rfl fl_api_Fact_2 rfl rfl (by simp [szs, sz, sz_encA]) rfl) ?_
    refine r_d rfl rfl rfl (s_load rfl rfl (by exact ty_L_int) rfl) ?_
    obtain ⟨r_4, hr_4, hr⟩ := bindS hr
    refine r_d rfl rfl rfl (s_callD rfl cl_constraintref03_SameInts (.cons rfl (Wk.refl _) (.cons rfl (Wk.refl _) .nil)) (lg_constraintref03_SameInts _ _ _ hr_4)) ?_
    refine r_d rfl rfl rfl (s_pickT rfl rfl rfl) ?_
    refine r_d rfl rfl rfl (s_assign rfl rfl) ?_
    refine r_end ?_
    obtain rfl := Option.some.inj hr
    refine g_ret Tryz.func189 _ (.cons (resTmp rfl (Wk.refl _)) .nil) ?_
    rfl
   ·
    refine r_skip rfl rfl rfl ?_
    refine r_skip rfl rfl rfl ?_
    refine r_skip rfl rfl rfl ?_
    refine r_skip rfl rfl rfl ?_
    refine r_skip rfl rfl rfl ?_
    refine r_d rfl rfl rfl (s_pickF rfl rfl rfl) ?_
    refine r_d rfl rfl rfl (s_assign rfl rfl) ?_
    refine r_end ?_
    obtain rfl := Option.some.inj hr
    refine g_ret Tryz.func189 _ (.cons (resTmp rfl (Wk.refl _)) .nil) ?_
    rfl
  ·
   refine r_skip rfl rfl rfl ?_
   refine r_skip rfl rfl rfl ?_
   refine r_skip rfl rfl rfl ?_
   refine r_skip rfl rfl rfl ?_
   refine r_skip rfl rfl rfl ?_
   refine r_d rfl rfl rfl (s_pickF rfl rfl rfl) ?_
   refine r_d rfl rfl rfl (s_move rfl rfl) ?_
   refine r_skip rfl rfl rfl ?_
   refine r_skip rfl rfl rfl ?_
   refine r_skip rfl rfl rfl ?_
   refine r_skip rfl rfl rfl ?_
   refine r_skip rfl rfl rfl ?_
   refine r_d rfl rfl rfl (s_pickF rfl rfl rfl) ?_
   refine r_d rfl rfl rfl (s_assign rfl rfl) ?_
   refine r_end ?_
   obtain rfl := Option.some.inj hr
   refine g_ret Tryz.func189 _ (.cons (resTmp rfl (Wk.refl _)) .nil) ?_
   rfl

noncomputable def lf_constraintref50_sameFacts_L0 (k : Option (Bool)) (b_a1 : (List S_api_Fact)) : List S_api_Fact → Nat → Option (Bool)
  | [], i_2 =>
  k
  | q_3 :: rest, i_2 =>
  ((getI b_a1 (i_2 : Int)).bind fun q_4 =>
  ((lf_constraintref49_Same q_3 q_4).bind fun r_5 =>
  (bif (!r_5) then
  some (false)
  else
  (lf_constraintref50_sameFacts_L0 k b_a1 rest (i_2 + 1)))))
noncomputable def lf_constraintref50_sameFacts (a_a0 : (List S_api_Fact)) (b_a1 : (List S_api_Fact)) : Option (Bool) :=
  (bif ((a_a0.length : Int) != (b_a1.length : Int)) then
  some (false)
  else
  (lf_constraintref50_sameFacts_L0 (some (true)) b_a1 a_a0 0))

set_option maxHeartbeats 1000000 in
theorem lg_constraintref50_sameFacts (a_a0 : (List S_api_Fact)) (b_a1 : (List S_api_Fact)) (res : Bool) (hr : lf_constraintref50_sameFacts a_a0 b_a1 = some res) : Gives Tryz.prog 116 [.lst (a_a0.map enc_S_api_Fact), .lst (b_a1.map enc_S_api_Fact)] (.bool res) := by
  unfold lf_constraintref50_sameFacts at hr
  refine spec_env [(0, .lst (a_a0.map enc_S_api_Fact)), (1, .lst (b_a1.map enc_S_api_Fact))] Tryz.func116 rfl rfl fun K hK => ?_
  refine g_seq ?_
  refine g_run (by kernel_rfl) [(0, .d)] rfl ?_
  refine r_d rfl rfl rfl (s_assign rfl rfl) ?_
  refine r_end ?_
  refine g_seq ?_
  refine g_seq ?_
  refine g_run (by kernel_rfl) [(0, .d), (1, .d), (2, .d), (3, .d), (4, .d)] rfl ?_
  refine r_d rfl rfl rfl (s_move rfl rfl) ?_
  refine r_d rfl rfl rfl (m_len (f := enc_S_api_Fact) a_a0 rfl el_L_api_Fact rfl (asl rfl)) ?_
  refine r_d rfl rfl rfl (s_move rfl rfl) ?_
  refine r_d rfl rfl rfl (m_len (f := enc_S_api_Fact) b_a1 rfl el_L_api_Fact rfl (asl rfl)) ?_
  refine r_d rfl rfl rfl (s_cmp rfl rfl rfl rfl) ?_
  refine r_end ?_
  refine g_sB 10 rfl hr (fun h10_0 hr => ?_) (fun h10_0 hr => ?_)
  ·
   refine g_condT rfl ?_
   refine g_seq ?_
   refine g_run (by kernel_rfl) [(0, .d)] rfl ?_
   refine r_d rfl rfl rfl (s_assign rfl rfl) ?_
   refine r_end ?_
   obtain rfl := Option.some.inj hr
   refine g_ret Tryz.func116 _ (.cons (resTmp rfl (Wk.refl _)) .nil) ?_
   rfl
  ·
   refine g_condF rfl ?_
   refine g_skip ?_
   refine g_seq ?_
   refine g_seq ?_
   refine g_run (by kernel_rfl) [(0, .d)] rfl ?_
   refine r_d rfl rfl rfl (s_assign rfl rfl) ?_
   refine r_end ?_
   obtain ⟨kk0, hkk0, hr⟩ := exK (fun k => lf_constraintref50_sameFacts_L0 k b_a1 a_a0 0) hr
   refine g_len 0 rfl (asl rfl) fun hla0 => ?_
   simp only [List.length_map] at hla0
   refine g_blockJ (fun env σ => env = [] ∧ σ = [] ∧ kk0 = some res) ?_ (fun HK0 => ?_)
   ·
    rintro _ _ ⟨rfl, rfl, hr⟩
    rw [hkk0] at hr
    refine g_seq ?_
    refine g_run (by kernel_rfl) [(0, .d)] rfl ?_
    refine r_d rfl rfl rfl (s_assign rfl rfl) ?_
    refine r_end ?_
    obtain rfl := Option.some.inj hr
    refine g_ret Tryz.func116 _ (.cons (resTmp rfl (Wk.refl _)) .nil) ?_
    rfl
   ·
    refine g_sub [(0, .lst (a_a0.map enc_S_api_Fact)), (1, .lst (b_a1.map enc_S_api_Fact)), (5, .int .i64 ((0 : Nat) : Int))] (Sub.cons' rfl (Sub.cons' rfl (Sub.cons' rfl (Sub.nil _)))) ?_
    refine g_loop (fun n env σ => ∃ (i_2 : Nat), (n = a_a0.length - i_2) ∧ (env = [(0, .lst (a_a0.map enc_S_api_Fact)), (1, .lst (b_a1.map enc_S_api_Fact)), (5, .int .i64 (i_2 : Int))]) ∧ (σ = []) ∧ (i_2 ≤ a_a0.length) ∧ (lf_constraintref50_sameFacts_L0 kk0 b_a1 (a_a0.drop i_2) i_2 = some res)) _ ⟨0, rfl, rfl, rfl, Nat.zero_le _, hr⟩ ?_
    rintro n _ _ ⟨i_2, rfl, rfl, rfl, hi0, hr⟩ IH0
    rcases listStep a_a0 i_2 hi0 with ⟨ht0, hd0, he0⟩ | ⟨q_3, ht0, hd0, hq0, hlt0⟩
    ·
     rw [hd0, lf_constraintref50_sameFacts_L0] at hr
     refine g_seq ?_
     refine g_seq ?_
     refine g_run (by kernel_rfl) [(0, .d), (1, .d), (2, .d), (3, .d)] rfl ?_
     refine r_d rfl rfl rfl (s_move rfl rfl) ?_
     refine r_d rfl rfl rfl (s_move rfl rfl) ?_
     refine r_d rfl rfl rfl (m_len (f := enc_S_api_Fact) a_a0 rfl el_L_api_Fact rfl (asl rfl)) ?_
     refine r_d rfl rfl rfl (s_cmp rfl rfl rfl rfl) ?_
     refine r_end ?_
     refine g_known 14 false rfl ht0 ?_
     refine g_condF rfl ?_
     refine g_exit rfl ?_
     refine g_sub [] (Sub.nil _) ?_
     exact HK0 _ _ ⟨rfl, rfl, hr⟩
    ·
     rw [hd0, lf_constraintref50_sameFacts_L0] at hr
     refine g_seq ?_
     refine g_seq ?_
     refine g_run (by kernel_rfl) [(0, .d), (1, .d), (2, .d), (3, .d)] rfl ?_
     refine r_d rfl rfl rfl (s_move rfl rfl) ?_
     refine r_d rfl rfl rfl (s_move rfl rfl) ?_
     refine r_d rfl rfl rfl (m_len (f := enc_S_api_Fact) a_a0 rfl el_L_api_Fact rfl (asl rfl)) ?_
     refine r_d rfl rfl rfl (s_cmp rfl rfl rfl rfl) ?_
     refine r_end ?_
     refine g_known 14 true rfl ht0 ?_
     refine g_condT rfl ?_
     refine g_skip ?_
     refine g_seq ?_
     refine g_block ?_
     refine g_seq ?_
     refine g_any (by kernel_rfl) (by kernel_rfl) [(0, .d), (1, .d), (2, .d), (3, .d), (4, .d), (5, .d), (6, .d), (7, .d), (8, .d), (9, .d)] (by kernel_rfl) ?_
     refine r_d rfl rfl rfl (s_move rfl rfl) ?_
     refine r_d rfl rfl rfl (s_move rfl rfl) ?_
     refine r_d rfl rfl rfl (m_index (f := enc_S_api_Fact) a_a0 rfl el_L_api_Fact rfl (asl rfl) rfl hq0 sz_S_api_Fact rfl) ?_
     refine r_d rfl rfl rfl (s_load rfl rfl (by exact ty_api_Fact) (sz_S_api_Fact _)) ?_
     refine r_d rfl rfl rfl (s_move rfl rfl) ?_
     refine r_d rfl rfl rfl (s_move rfl rfl) ?_
     obtain ⟨q_4, hq_4, hr⟩ := bindS hr
     refine r_d rfl rfl rfl (m_index (f := enc_S_api_Fact) b_a1 rfl el_L_api_Fact rfl (asl rfl) rfl hq_4 sz_S_api_Fact rfl) ?_
     refine r_d rfl rfl rfl (s_load rfl rfl (by exact ty_api_Fact) (sz_S_api_Fact _)) ?_
     obtain ⟨r_5, hr_5, hr⟩ := bindS hr
     refine r_d rfl rfl rfl (s_callD rfl cl_constraintref49_Same (.cons rfl (Wk.refl _) (.cons rfl (Wk.refl _) .nil)) (lg_constraintref49_Same _ _ _ hr_5)) ?_
     refine r_d rfl rfl rfl (s_not rfl rfl) ?_
     refine r_end ?_
     refine g_sB 26 rfl hr (fun h26_5 hr => ?_) (fun h26_5 hr => ?_)
     ·
      refine g_condT rfl ?_
      refine g_seq ?_
      refine g_run (by kernel_rfl) [(0, .d)] rfl ?_
      refine r_d rfl rfl rfl (s_assign rfl rfl) ?_
      refine r_end ?_
      obtain rfl := Option.some.inj hr
      refine g_ret Tryz.func116 _ (.cons (resTmp rfl (Wk.refl _)) .nil) ?_
      rfl
     ·
      refine g_condF rfl ?_
      refine g_skip ?_
      refine g_inBlock ?_
      refine g_run (by kernel_rfl) [(0, .d), (1, .d), (2, .d)] rfl ?_
      refine r_d rfl rfl rfl (s_move rfl rfl) ?_
      refine r_d rfl rfl rfl (s_ar (r := ((i_2 + 1 : Nat) : Int)) rfl rfl rfl (by simp [iar]) (by omega)) ?_
      refine r_d rfl rfl rfl (s_assign rfl rfl) ?_
      refine r_end ?_
      refine g_sub [(0, .lst (a_a0.map enc_S_api_Fact)), (1, .lst (b_a1.map enc_S_api_Fact)), (5, .int .i64 ((i_2 + 1 : Nat) : Int))] (Sub.cons' rfl (Sub.cons' rfl (Sub.cons' rfl (Sub.nil _)))) ?_
      exact IH0 _ _ _ (by omega) ⟨(i_2 + 1), rfl, rfl, rfl, (by omega), hr⟩

noncomputable def lf_constraintref50_same_L0 (k : Option (Bool)) (b_a1 : (List Int)) : List Int → Nat → Option (Bool)
  | [], i_2 =>
  k
  | q_3 :: rest, i_2 =>
  ((getI b_a1 (i_2 : Int)).bind fun q_4 =>
  (bif (q_3 != q_4) then
  some (false)
  else
  (lf_constraintref50_same_L0 k b_a1 rest (i_2 + 1))))
noncomputable def lf_constraintref50_same (a_a0 : (List Int)) (b_a1 : (List Int)) : Option (Bool) :=
  (bif ((a_a0.length : Int) != (b_a1.length : Int)) then
  some (false)
  else
  (lf_constraintref50_same_L0 (some (true)) b_a1 a_a0 0))

set_option maxHeartbeats 1000000 in
theorem lg_constraintref50_same (a_a0 : (List Int)) (b_a1 : (List Int)) (res : Bool) (hr : lf_constraintref50_same a_a0 b_a1 = some res) : Gives Tryz.prog 117 [.lst (a_a0.map (D.int .i64)), .lst (b_a1.map (D.int .i64))] (.bool res) := by
  unfold lf_constraintref50_same at hr
  refine spec_env [(0, .lst (a_a0.map (D.int .i64))), (1, .lst (b_a1.map (D.int .i64)))] Tryz.func117 rfl rfl fun K hK => ?_
  refine g_seq ?_
  refine g_run (by kernel_rfl) [(0, .d)] rfl ?_
  refine r_d rfl rfl rfl (s_assign rfl rfl) ?_
  refine r_end ?_
  refine g_seq ?_
  refine g_seq ?_
  refine g_run (by kernel_rfl) [(0, .d), (1, .d), (2, .d), (3, .d), (4, .d)] rfl ?_
  refine r_d rfl rfl rfl (s_move rfl rfl) ?_
  refine r_d rfl rfl rfl (m_len (f := (D.int .i64)) a_a0 rfl el_L_int rfl (asl rfl)) ?_
  refine r_d rfl rfl rfl (s_move rfl rfl) ?_
  refine r_d rfl rfl rfl (m_len (f := (D.int .i64)) b_a1 rfl el_L_int rfl (asl rfl)) ?_
  refine r_d rfl rfl rfl (s_cmp rfl rfl rfl rfl) ?_
  refine r_end ?_
  refine g_sB 10 rfl hr (fun h10_0 hr => ?_) (fun h10_0 hr => ?_)
  ·
   refine g_condT rfl ?_
   refine g_seq ?_
   refine g_run (by kernel_rfl) [(0, .d)] rfl ?_
   refine r_d rfl rfl rfl (s_assign rfl rfl) ?_
   refine r_end ?_
   obtain rfl := Option.some.inj hr
   refine g_ret Tryz.func117 _ (.cons (resTmp rfl (Wk.refl _)) .nil) ?_
   rfl
  ·
   refine g_condF rfl ?_
   refine g_skip ?_
   refine g_seq ?_
   refine g_seq ?_
   refine g_run (by kernel_rfl) [(0, .d)] rfl ?_
   refine r_d rfl rfl rfl (s_assign rfl rfl) ?_
   refine r_end ?_
   obtain ⟨kk0, hkk0, hr⟩ := exK (fun k => lf_constraintref50_same_L0 k b_a1 a_a0 0) hr
   refine g_len 0 rfl (asl rfl) fun hla0 => ?_
   simp only [List.length_map] at hla0
   refine g_blockJ (fun env σ => env = [] ∧ σ = [] ∧ kk0 = some res) ?_ (fun HK0 => ?_)
   ·
    rintro _ _ ⟨rfl, rfl, hr⟩
    rw [hkk0] at hr
    refine g_seq ?_
    refine g_run (by kernel_rfl) [(0, .d)] rfl ?_
    refine r_d rfl rfl rfl (s_assign rfl rfl) ?_
    refine r_end ?_
    obtain rfl := Option.some.inj hr
    refine g_ret Tryz.func117 _ (.cons (resTmp rfl (Wk.refl _)) .nil) ?_
    rfl
   ·
    refine g_sub [(0, .lst (a_a0.map (D.int .i64))), (1, .lst (b_a1.map (D.int .i64))), (5, .int .i64 ((0 : Nat) : Int))] (Sub.cons' rfl (Sub.cons' rfl (Sub.cons' rfl (Sub.nil _)))) ?_
    refine g_loop (fun n env σ => ∃ (i_2 : Nat), (n = a_a0.length - i_2) ∧ (env = [(0, .lst (a_a0.map (D.int .i64))), (1, .lst (b_a1.map (D.int .i64))), (5, .int .i64 (i_2 : Int))]) ∧ (σ = []) ∧ (i_2 ≤ a_a0.length) ∧ (lf_constraintref50_same_L0 kk0 b_a1 (a_a0.drop i_2) i_2 = some res)) _ ⟨0, rfl, rfl, rfl, Nat.zero_le _, hr⟩ ?_
    rintro n _ _ ⟨i_2, rfl, rfl, rfl, hi0, hr⟩ IH0
    rcases listStep a_a0 i_2 hi0 with ⟨ht0, hd0, he0⟩ | ⟨q_3, ht0, hd0, hq0, hlt0⟩
    ·
     rw [hd0, lf_constraintref50_same_L0] at hr
     refine g_seq ?_
     refine g_seq ?_
     refine g_run (by kernel_rfl) [(0, .d), (1, .d), (2, .d), (3, .d)] rfl ?_
     refine r_d rfl rfl rfl (s_move rfl rfl) ?_
     refine r_d rfl rfl rfl (s_move rfl rfl) ?_
     refine r_d rfl rfl rfl (m_len (f := (D.int .i64)) a_a0 rfl el_L_int rfl (asl rfl)) ?_
     refine r_d rfl rfl rfl (s_cmp rfl rfl rfl rfl) ?_
     refine r_end ?_
     refine g_known 14 false rfl ht0 ?_
     refine g_condF rfl ?_
     refine g_exit rfl ?_
     refine g_sub [] (Sub.nil _) ?_
     exact HK0 _ _ ⟨rfl, rfl, hr⟩
    ·
     rw [hd0, lf_constraintref50_same_L0] at hr
     refine g_seq ?_
     refine g_seq ?_
     refine g_run (by kernel_rfl) [(0, .d), (1, .d), (2, .d), (3, .d)] rfl ?_
     refine r_d rfl rfl rfl (s_move rfl rfl) ?_
     refine r_d rfl rfl rfl (s_move rfl rfl) ?_
     refine r_d rfl rfl rfl (m_len (f := (D.int .i64)) a_a0 rfl el_L_int rfl (asl rfl)) ?_
     refine r_d rfl rfl rfl (s_cmp rfl rfl rfl rfl) ?_
     refine r_end ?_
     refine g_known 14 true rfl ht0 ?_
     refine g_condT rfl ?_
     refine g_skip ?_
     refine g_seq ?_
     refine g_block ?_
     refine g_seq ?_
     refine g_any (by kernel_rfl) (by kernel_rfl) [(0, .d), (1, .d), (2, .d), (3, .d), (4, .d), (5, .d), (6, .d), (7, .d), (8, .d)] (by kernel_rfl) ?_
     refine r_d rfl rfl rfl (s_move rfl rfl) ?_
     refine r_d rfl rfl rfl (s_move rfl rfl) ?_
     refine r_d rfl rfl rfl (m_index (f := (D.int .i64)) a_a0 rfl el_L_int rfl (asl rfl) rfl hq0 (fun _ => rfl) rfl) ?_
     refine r_d rfl rfl rfl (s_load rfl rfl (by exact ty_int) rfl) ?_
     refine r_d rfl rfl rfl (s_move rfl rfl) ?_
     refine r_d rfl rfl rfl (s_move rfl rfl) ?_
     obtain ⟨q_4, hq_4, hr⟩ := bindS hr
     refine r_d rfl rfl rfl (m_index (f := (D.int .i64)) b_a1 rfl el_L_int rfl (asl rfl) rfl hq_4 (fun _ => rfl) rfl) ?_
     refine r_d rfl rfl rfl (s_load rfl rfl (by exact ty_int) rfl) ?_
     refine r_d rfl rfl rfl (s_cmp rfl rfl rfl rfl) ?_
     refine r_end ?_
     refine g_sB 25 rfl hr (fun h25_4 hr => ?_) (fun h25_4 hr => ?_)
     ·
      refine g_condT rfl ?_
      refine g_seq ?_
      refine g_run (by kernel_rfl) [(0, .d)] rfl ?_
      refine r_d rfl rfl rfl (s_assign rfl rfl) ?_
      refine r_end ?_
      obtain rfl := Option.some.inj hr
      refine g_ret Tryz.func117 _ (.cons (resTmp rfl (Wk.refl _)) .nil) ?_
      rfl
     ·
      refine g_condF rfl ?_
      refine g_skip ?_
      refine g_inBlock ?_
      refine g_run (by kernel_rfl) [(0, .d), (1, .d), (2, .d)] rfl ?_
      refine r_d rfl rfl rfl (s_move rfl rfl) ?_
      refine r_d rfl rfl rfl (s_ar (r := ((i_2 + 1 : Nat) : Int)) rfl rfl rfl (by simp [iar]) (by omega)) ?_
      refine r_d rfl rfl rfl (s_assign rfl rfl) ?_
      refine r_end ?_
      refine g_sub [(0, .lst (a_a0.map (D.int .i64))), (1, .lst (b_a1.map (D.int .i64))), (5, .int .i64 ((i_2 + 1 : Nat) : Int))] (Sub.cons' rfl (Sub.cons' rfl (Sub.cons' rfl (Sub.nil _)))) ?_
      exact IH0 _ _ _ (by omega) ⟨(i_2 + 1), rfl, rfl, rfl, (by omega), hr⟩

noncomputable def lf_constraintref50_Same_L0 (k : Option (Bool)) (b_a1 : S_api_Memory) : List S_api_Applied → Nat → Option (Bool)
  | [], i_8 =>
  k
  | q_9 :: rest, i_8 =>
  ((getI b_a1.f2_Log (i_8 : Int)).bind fun q_11 =>
  (bif (q_9.f0_Rule != q_11.f0_Rule) then
  some (false)
  else
  (bif (q_9.f4_Failed != q_11.f4_Failed) then
  some (false)
  else
  ((lf_constraintref50_same q_9.f1_Heads q_11.f1_Heads).bind fun r_15 =>
  (bif (!r_15) then
  some (false)
  else
  ((lf_constraintref50_same q_9.f2_Gone q_11.f2_Gone).bind fun r_17 =>
  (bif (!r_17) then
  some (false)
  else
  ((lf_constraintref50_same q_9.f3_Made q_11.f3_Made).bind fun r_19 =>
  (bif (!r_19) then
  some (false)
  else
  ((lf_constraintref50_same q_9.f5_Just q_11.f5_Just).bind fun r_21 =>
  (bif (!r_21) then
  some (false)
  else
  (lf_constraintref50_Same_L0 k b_a1 rest (i_8 + 1)))))))))))))
noncomputable def lf_constraintref50_Same (a_a0 : S_api_Memory) (b_a1 : S_api_Memory) : Option (Bool) :=
  ((lf_constraintref50_sameFacts a_a0.f0_Facts b_a1.f0_Facts).bind fun r_1 =>
  (bif (!r_1) then
  some (false)
  else
  ((lf_constraintref50_sameFacts a_a0.f1_Past b_a1.f1_Past).bind fun r_3 =>
  (bif (!r_3) then
  some (false)
  else
  (bif (a_a0.f3_Next != b_a1.f3_Next) then
  some (false)
  else
  (bif (a_a0.f4_Given != b_a1.f4_Given) then
  some (false)
  else
  (bif ((a_a0.f2_Log.length : Int) != (b_a1.f2_Log.length : Int)) then
  some (false)
  else
  (lf_constraintref50_Same_L0 (some (true)) b_a1 a_a0.f2_Log 0))))))))

set_option maxHeartbeats 1000000 in
theorem lg_constraintref50_Same (a_a0 : S_api_Memory) (b_a1 : S_api_Memory) (res : Bool) (hr : lf_constraintref50_Same a_a0 b_a1 = some res) : Gives Tryz.prog 28 [enc_S_api_Memory a_a0, enc_S_api_Memory b_a1] (.bool res) := by
  unfold lf_constraintref50_Same at hr
  refine spec_env [(0, enc_S_api_Memory a_a0), (1, enc_S_api_Memory b_a1)] Tryz.func28 rfl rfl fun K hK => ?_
  refine g_seq ?_
  refine g_run (by kernel_rfl) [(0, .d), (1, .d), (2, .d)] rfl ?_
  refine r_d rfl rfl rfl (s_box rfl rfl rfl) ?_
  refine r_d rfl rfl rfl (s_box rfl rfl rfl) ?_
  refine r_d rfl rfl rfl (s_assign rfl rfl) ?_
  refine r_end ?_
  refine g_seq ?_
  refine g_seq ?_
  refine g_run (by kernel_rfl) [(0, .d), (1, .d), (2, .d), (3, .d), (4, .d), (5, .d), (6, .d), (7, .d), (8, .d), (9, .d), (10, .d), (11, .d), (12, .d), (13, .d), (14, .d), (15, .d), (16, .d), (17, .d), (18, .d), (19, .d), (20, .d), (21, .d), (22, .d), (23, .d), (24, .d), (25, .d), (26, .d), (27, .d), (28, .d), (29, .d), (30, .d), (31, .d), (32, .d), (33, .d), (34, .d), (35, .d), (36, .d)] rfl ?_
  refine r_d rfl rfl rfl (s_fieldAddr rfl fl_api_Memory_0 rfl rfl rfl rfl) ?_
  refine r_d rfl rfl rfl (s_load rfl rfl (by exact ty_L_api_Fact) rfl) ?_
  refine r_d rfl rfl rfl (s_fieldAddr rfl fl_api_Memory_0 rfl rfl rfl rfl) ?_
  refine r_d rfl rfl rfl (s_load rfl rfl (by exact ty_L_api_Fact) rfl) ?_
  obtain ⟨r_1, hr_1, hr⟩ := bindS hr
  refine r_d rfl rfl rfl (s_callD rfl cl_constraintref50_sameFacts (.cons rfl (Wk.refl _) (.cons rfl (Wk.refl _) .nil)) (lg_constraintref50_sameFacts _ _ _ hr_1)) ?_
  refine r_d rfl rfl rfl (s_not rfl rfl) ?_
  refine r_d rfl rfl rfl (s_move rfl rfl) ?_
  refine r_sB 14 rfl hr (fun h14_1 hr => ?_) (fun h14_1 hr => ?_)
  ·
   refine r_skip rfl rfl rfl ?_
   refine r_skip rfl rfl rfl ?_
   refine r_skip rfl rfl rfl ?_
   refine r_skip rfl rfl rfl ?_
   refine r_skip rfl rfl rfl ?_
   refine r_skip rfl rfl rfl ?_
   refine r_d rfl rfl rfl (s_pickT rfl rfl rfl) ?_
   refine r_d rfl rfl rfl (s_move rfl rfl) ?_
   refine r_skip rfl rfl rfl ?_
   refine r_skip rfl rfl rfl ?_
   refine r_skip rfl rfl rfl ?_
   refine r_skip rfl rfl rfl ?_
   refine r_skip rfl rfl rfl ?_
   refine r_d rfl rfl rfl (s_pickT rfl rfl rfl) ?_
   refine r_d rfl rfl rfl (s_move rfl rfl) ?_
   refine r_skip rfl rfl rfl ?_
   refine r_skip rfl rfl rfl ?_
   refine r_skip rfl rfl rfl ?_
   refine r_skip rfl rfl rfl ?_
   refine r_skip rfl rfl rfl ?_
   refine r_d rfl rfl rfl (s_pickT rfl rfl rfl) ?_
   refine r_d rfl rfl rfl (s_move rfl rfl) ?_
   refine r_skip rfl rfl rfl ?_
   refine r_skip rfl rfl rfl ?_
   refine r_skip rfl rfl rfl ?_
   refine r_skip rfl rfl rfl ?_
   refine r_skip rfl rfl rfl ?_
   refine r_skip rfl rfl rfl ?_
   refine r_skip rfl rfl rfl ?_
   refine r_d rfl rfl rfl (s_pickT rfl rfl rfl) ?_
   refine r_end ?_
   refine g_condT rfl ?_
   refine g_seq ?_
   refine g_run (by kernel_rfl) [(0, .d)] rfl ?_
   refine r_d rfl rfl rfl (s_assign rfl rfl) ?_
   refine r_end ?_
   obtain rfl := Option.some.inj hr
   refine g_ret Tryz.func28 _ (.cons (resTmp rfl (Wk.refl _)) .nil) ?_
   rfl
  ·
   refine r_d rfl rfl rfl (s_fieldAddr rfl fl_api_Memory_1 rfl rfl rfl rfl) ?_
   refine r_d rfl rfl rfl (s_load rfl rfl (by exact ty_L_api_Fact) rfl) ?_
   refine r_d rfl rfl rfl (s_fieldAddr rfl fl_api_Memory_1 rfl rfl rfl rfl) ?_
   refine r_d rfl rfl rfl (s_load rfl rfl (by exact ty_L_api_Fact) rfl) ?_
   obtain ⟨r_3, hr_3, hr⟩ := bindS hr
   refine r_d rfl rfl rfl (s_callD rfl cl_constraintref50_sameFacts (.cons rfl (Wk.refl _) (.cons rfl (Wk.refl _) .nil)) (lg_constraintref50_sameFacts _ _ _ hr_3)) ?_
   refine r_d rfl rfl rfl (s_not rfl rfl) ?_
   refine r_d rfl rfl rfl (s_pickF rfl rfl rfl) ?_
   refine r_d rfl rfl rfl (s_move rfl rfl) ?_
   refine r_sB 22 rfl hr (fun h22_3 hr => ?_) (fun h22_3 hr => ?_)
   ·
    refine r_skip rfl rfl rfl ?_
    refine r_skip rfl rfl rfl ?_
    refine r_skip rfl rfl rfl ?_
    refine r_skip rfl rfl rfl ?_
    refine r_skip rfl rfl rfl ?_
    refine r_d rfl rfl rfl (s_pickT rfl rfl rfl) ?_
    refine r_d rfl rfl rfl (s_move rfl rfl) ?_
    refine r_skip rfl rfl rfl ?_
    refine r_skip rfl rfl rfl ?_
    refine r_skip rfl rfl rfl ?_
    refine r_skip rfl rfl rfl ?_
    refine r_skip rfl rfl rfl ?_
    refine r_d rfl rfl rfl (s_pickT rfl rfl rfl) ?_
    refine r_d rfl rfl rfl (s_move rfl rfl) ?_
    refine r_skip rfl rfl rfl ?_
    refine r_skip rfl rfl rfl ?_
    refine r_skip rfl rfl rfl ?_
    refine r_skip rfl rfl rfl ?_
    refine r_skip rfl rfl rfl ?_
    refine r_skip rfl rfl rfl ?_
    refine r_skip rfl rfl rfl ?_
    refine r_d rfl rfl rfl (s_pickT rfl rfl rfl) ?_
    refine r_end ?_
    refine g_condT rfl ?_
    refine g_seq ?_
    refine g_run (by kernel_rfl) [(0, .d)] rfl ?_
    refine r_d rfl rfl rfl (s_assign rfl rfl) ?_
    refine r_end ?_
    obtain rfl := Option.some.inj hr
    refine g_ret Tryz.func28 _ (.cons (resTmp rfl (Wk.refl _)) .nil) ?_
    rfl
   ·
    refine r_d rfl rfl rfl (s_fieldAddr rfl fl_api_Memory_3 rfl rfl rfl rfl) ?_
    refine r_d rfl rfl rfl (s_load rfl rfl (by exact ty_int) rfl) ?_
    refine r_d rfl rfl rfl (s_fieldAddr rfl fl_api_Memory_3 rfl rfl rfl rfl) ?_
    refine r_d rfl rfl rfl (s_load rfl rfl (by exact ty_int) rfl) ?_
    refine r_d rfl rfl rfl (s_cmp rfl rfl rfl rfl) ?_
    refine r_d rfl rfl rfl (s_pickF rfl rfl rfl) ?_
    refine r_d rfl rfl rfl (s_move rfl rfl) ?_
    refine r_sB 29 rfl hr (fun h29_4 hr => ?_) (fun h29_4 hr => ?_)
    ·
     refine r_skip rfl rfl rfl ?_
     refine r_skip rfl rfl rfl ?_
     refine r_skip rfl rfl rfl ?_
     refine r_skip rfl rfl rfl ?_
     refine r_skip rfl rfl rfl ?_
     refine r_d rfl rfl rfl (s_pickT rfl rfl rfl) ?_
     refine r_d rfl rfl rfl (s_move rfl rfl) ?_
     refine r_skip rfl rfl rfl ?_
     refine r_skip rfl rfl rfl ?_
     refine r_skip rfl rfl rfl ?_
     refine r_skip rfl rfl rfl ?_
     refine r_skip rfl rfl rfl ?_
     refine r_skip rfl rfl rfl ?_
     refine r_skip rfl rfl rfl ?_
     refine r_d rfl rfl rfl (s_pickT rfl rfl rfl) ?_
     refine r_end ?_
     refine g_condT rfl ?_
     refine g_seq ?_
     refine g_run (by kernel_rfl) [(0, .d)] rfl ?_
     refine r_d rfl rfl rfl (s_assign rfl rfl) ?_
     refine r_end ?_
     obtain rfl := Option.some.inj hr
     refine g_ret Tryz.func28 _ (.cons (resTmp rfl (Wk.refl _)) .nil) ?_
     rfl
    ·
     refine r_d rfl rfl rfl (s_fieldAddr rfl fl_api_Memory_4 rfl rfl rfl rfl) ?_
     refine r_d rfl rfl rfl (s_load rfl rfl (by exact ty_int) rfl) ?_
     refine r_d rfl rfl rfl (s_fieldAddr rfl fl_api_Memory_4 rfl rfl rfl rfl) ?_
     refine r_d rfl rfl rfl (s_load rfl rfl (by exact ty_int) rfl) ?_
     refine r_d rfl rfl rfl (s_cmp rfl rfl rfl rfl) ?_
     refine r_d rfl rfl rfl (s_pickF rfl rfl rfl) ?_
     refine r_d rfl rfl rfl (s_move rfl rfl) ?_
     refine r_sB 36 rfl hr (fun h36_5 hr => ?_) (fun h36_5 hr => ?_)
     ·
      refine r_skip rfl rfl rfl ?_
      refine r_skip rfl rfl rfl ?_
      refine r_skip rfl rfl rfl ?_
      refine r_skip rfl rfl rfl ?_
      refine r_skip rfl rfl rfl ?_
      refine r_skip rfl rfl rfl ?_
      refine r_skip rfl rfl rfl ?_
      refine r_d rfl rfl rfl (s_pickT rfl rfl rfl) ?_
      refine r_end ?_
      refine g_condT rfl ?_
      refine g_seq ?_
      refine g_run (by kernel_rfl) [(0, .d)] rfl ?_
      refine r_d rfl rfl rfl (s_assign rfl rfl) ?_
      refine r_end ?_
      obtain rfl := Option.some.inj hr
      refine g_ret Tryz.func28 _ (.cons (resTmp rfl (Wk.refl _)) .nil) ?_
      rfl
     ·
      refine r_d rfl rfl rfl (s_fieldAddr rfl fl_api_Memory_2 rfl rfl rfl rfl) ?_
      refine r_d rfl rfl rfl (s_load rfl rfl (by exact ty_L_api_Applied) rfl) ?_
      refine r_d rfl rfl rfl (m_len (f := enc_S_api_Applied) a_a0.f2_Log rfl el_L_api_Applied rfl (asl rfl)) ?_
      refine r_d rfl rfl rfl (s_fieldAddr rfl fl_api_Memory_2 rfl rfl rfl rfl) ?_
      refine r_d rfl rfl rfl (s_load rfl rfl (by exact ty_L_api_Applied) rfl) ?_
      refine r_d rfl rfl rfl (m_len (f := enc_S_api_Applied) b_a1.f2_Log rfl el_L_api_Applied rfl (asl rfl)) ?_
      refine r_d rfl rfl rfl (s_cmp rfl rfl rfl rfl) ?_
      refine r_d rfl rfl rfl (s_pickF rfl rfl rfl) ?_
      refine r_end ?_
      refine g_sB 44 rfl hr (fun h44_6 hr => ?_) (fun h44_6 hr => ?_)
      ·
       refine g_condT rfl ?_
       refine g_seq ?_
       refine g_run (by kernel_rfl) [(0, .d)] rfl ?_
       refine r_d rfl rfl rfl (s_assign rfl rfl) ?_
       refine r_end ?_
       obtain rfl := Option.some.inj hr
       refine g_ret Tryz.func28 _ (.cons (resTmp rfl (Wk.refl _)) .nil) ?_
       rfl
      ·
       refine g_condF rfl ?_
       refine g_skip ?_
       refine g_seq ?_
       refine g_seq ?_
       refine g_run (by kernel_rfl) [(0, .d)] rfl ?_
       refine r_d rfl rfl rfl (s_assign rfl rfl) ?_
       refine r_end ?_
       obtain ⟨kk0, hkk0, hr⟩ := exK (fun k => lf_constraintref50_Same_L0 k b_a1 a_a0.f2_Log 0) hr
       refine g_len 38 rfl (asl rfl) fun hla0 => ?_
       simp only [List.length_map] at hla0
       refine g_blockJ (fun env σ => env = [] ∧ σ = [] ∧ kk0 = some res) ?_ (fun HK0 => ?_)
       ·
        rintro _ _ ⟨rfl, rfl, hr⟩
        rw [hkk0] at hr
        refine g_seq ?_
        refine g_run (by kernel_rfl) [(0, .d)] rfl ?_
        refine r_d rfl rfl rfl (s_assign rfl rfl) ?_
        refine r_end ?_
        obtain rfl := Option.some.inj hr
        refine g_ret Tryz.func28 _ (.cons (resTmp rfl (Wk.refl _)) .nil) ?_
        rfl
       ·
        refine g_sub [(2, .ptr (enc_S_api_Memory a_a0)), (3, .ptr (enc_S_api_Memory b_a1)), (5, .int .i64 ((0 : Nat) : Int))] (Sub.cons' rfl (Sub.cons' rfl (Sub.cons' rfl (Sub.nil _)))) ?_
        refine g_loop (fun n env σ => ∃ (i_8 : Nat), (n = a_a0.f2_Log.length - i_8) ∧ (env = [(2, .ptr (enc_S_api_Memory a_a0)), (3, .ptr (enc_S_api_Memory b_a1)), (5, .int .i64 (i_8 : Int))]) ∧ (σ = []) ∧ (i_8 ≤ a_a0.f2_Log.length) ∧ (lf_constraintref50_Same_L0 kk0 b_a1 (a_a0.f2_Log.drop i_8) i_8 = some res)) _ ⟨0, rfl, rfl, rfl, Nat.zero_le _, hr⟩ ?_
        rintro n _ _ ⟨i_8, rfl, rfl, rfl, hi0, hr⟩ IH0
        rcases listStep a_a0.f2_Log i_8 hi0 with ⟨ht0, hd0, he0⟩ | ⟨q_9, ht0, hd0, hq0, hlt0⟩
        ·
         rw [hd0, lf_constraintref50_Same_L0] at hr
         refine g_seq ?_
         refine g_seq ?_
         refine g_run (by kernel_rfl) [(0, .d), (1, .d), (2, .d), (3, .d), (4, .d)] rfl ?_
         refine r_d rfl rfl rfl (s_move rfl rfl) ?_
         refine r_d rfl rfl rfl (s_fieldAddr rfl fl_api_Memory_2 rfl rfl rfl rfl) ?_
         refine r_d rfl rfl rfl (s_load rfl rfl (by exact ty_L_api_Applied) rfl) ?_
         refine r_d rfl rfl rfl (m_len (f := enc_S_api_Applied) a_a0.f2_Log rfl el_L_api_Applied rfl (asl rfl)) ?_
         refine r_d rfl rfl rfl (s_cmp rfl rfl rfl rfl) ?_
         refine r_end ?_
         refine g_known 49 false rfl ht0 ?_
         refine g_condF rfl ?_
         refine g_exit rfl ?_
         refine g_sub [] (Sub.nil _) ?_
         exact HK0 _ _ ⟨rfl, rfl, hr⟩
        ·
         rw [hd0, lf_constraintref50_Same_L0] at hr
         refine g_seq ?_
         refine g_seq ?_
         refine g_run (by kernel_rfl) [(0, .d), (1, .d), (2, .d), (3, .d), (4, .d)] rfl ?_
         refine r_d rfl rfl rfl (s_move rfl rfl) ?_
         refine r_d rfl rfl rfl (s_fieldAddr rfl fl_api_Memory_2 rfl rfl rfl rfl) ?_
         refine r_d rfl rfl rfl (s_load rfl rfl (by exact ty_L_api_Applied) rfl) ?_
         refine r_d rfl rfl rfl (m_len (f := enc_S_api_Applied) a_a0.f2_Log rfl el_L_api_Applied rfl (asl rfl)) ?_
         refine r_d rfl rfl rfl (s_cmp rfl rfl rfl rfl) ?_
         refine r_end ?_
         refine g_known 49 true rfl ht0 ?_
         refine g_condT rfl ?_
         refine g_skip ?_
         refine g_seq ?_
         refine g_block ?_
         refine g_seq ?_
         refine g_run (by kernel_rfl) [(0, .d), (1, .d), (2, .d), (3, .d), (4, .d), (5, .w), (6, .w)] rfl ?_
         refine r_d rfl rfl rfl (s_fieldAddr rfl fl_api_Memory_2 rfl rfl rfl rfl) ?_
         refine r_d rfl rfl rfl (s_load rfl rfl (by exact ty_L_api_Applied) rfl) ?_
         refine r_d rfl rfl rfl (s_move rfl rfl) ?_
         refine r_d rfl rfl rfl (m_index (f := enc_S_api_Applied) a_a0.f2_Log rfl el_L_api_Applied rfl (asl rfl) rfl hq0 sz_S_api_Applied rfl) ?_
         refine r_d rfl rfl rfl (s_load rfl rfl (by exact ty_api_Applied) (sz_S_api_Applied _)) ?_
         refine r_w rfl rfl rfl (s_alloc rfl zv_api_Applied) ?_
         rintro _ _ ⟨b6_9, rfl, rfl⟩
         refine r_w01 rfl rfl rfl (t_store0 _ rfl rfl rfl (Wk.refl _) (pf0 _) (by exact ty_api_Applied) (sz_S_api_Applied _) rfl rfl) ?_
         refine r_end ?_
         refine g_freeze 6 b6_9 rfl (pf0 _) ?_
         refine g_seq ?_
         refine g_run (by kernel_rfl) [(0, .d), (1, .d), (2, .d), (3, .d), (4, .d), (5, .w), (6, .w)] rfl ?_
         refine r_d rfl rfl rfl (s_fieldAddr rfl fl_api_Memory_2 rfl rfl rfl rfl) ?_
         refine r_d rfl rfl rfl (s_load rfl rfl (by exact ty_L_api_Applied) rfl) ?_
         refine r_d rfl rfl rfl (s_move rfl rfl) ?_
         obtain ⟨q_11, hq_11, hr⟩ := bindS hr
         refine r_d rfl rfl rfl (m_index (f := enc_S_api_Applied) b_a1.f2_Log rfl el_L_api_Applied rfl (asl rfl) rfl hq_11 sz_S_api_Applied rfl) ?_
         refine r_d rfl rfl rfl (s_load rfl rfl (by exact ty_api_Applied) (sz_S_api_Applied _)) ?_
         refine r_w rfl rfl rfl (s_alloc rfl zv_api_Applied) ?_
         rintro _ _ ⟨b7_11, rfl, rfl⟩
         refine r_w01 rfl rfl rfl (t_store0 _ rfl rfl rfl (Wk.refl _) (pf0 _) (by exact ty_api_Applied) (sz_S_api_Applied _) rfl rfl) ?_
         refine r_end ?_
         refine g_freeze 7 b7_11 rfl (pf0 _) ?_
         refine g_seq ?_
         refine g_run (by kernel_rfl) [(0, .d), (1, .d), (2, .d), (3, .d), (4, .d), (5, .d), (6, .d), (7, .d), (8, .d), (9, .d), (10, .d), (11, .d), (12, .d), (13, .d), (14, .d), (15, .d), (16, .d), (17, .d), (18, .d), (19, .d), (20, .d), (21, .d), (22, .d), (23, .d), (24, .d), (25, .d), (26, .d), (27, .d), (28, .d), (29, .d), (30, .d), (31, .d), (32, .d), (33, .d), (34, .d), (35, .d), (36, .d), (37, .d), (38, .d), (39, .d), (40, .d), (41, .d), (42, .d), (43, .d)] rfl ?_
         refine r_d rfl rfl rfl (s_fieldAddr rfl fl_api_Applied_0 rfl rfl rfl rfl) ?_
         refine r_d rfl rfl rfl (s_load rfl rfl (by exact ty_int) rfl) ?_
         refine r_d rfl rfl rfl (s_fieldAddr rfl fl_api_Applied_0 rfl rfl rfl rfl) ?_
         refine r_d rfl rfl rfl (s_load rfl rfl (by exact ty_int) rfl) ?_
         refine r_d rfl rfl rfl (s_cmp rfl rfl rfl rfl) ?_
         refine r_d rfl rfl rfl (s_move rfl rfl) ?_
         refine r_sB 67 rfl hr (fun h67_12 hr => ?_) (fun h67_12 hr => ?_)
         ·
          refine r_skip rfl rfl rfl ?_
          refine r_skip rfl rfl rfl ?_
          refine r_skip rfl rfl rfl ?_
          refine r_skip rfl rfl rfl ?_
          refine r_skip rfl rfl rfl ?_
          refine r_d rfl rfl rfl (s_pickT rfl rfl rfl) ?_
          refine r_d rfl rfl rfl (s_move rfl rfl) ?_
          refine r_skip rfl rfl rfl ?_
          refine r_skip rfl rfl rfl ?_
          refine r_skip rfl rfl rfl ?_
          refine r_skip rfl rfl rfl ?_
          refine r_skip rfl rfl rfl ?_
          refine r_skip rfl rfl rfl ?_
          refine r_d rfl rfl rfl (s_pickT rfl rfl rfl) ?_
          refine r_d rfl rfl rfl (s_move rfl rfl) ?_
          refine r_skip rfl rfl rfl ?_
          refine r_skip rfl rfl rfl ?_
          refine r_skip rfl rfl rfl ?_
          refine r_skip rfl rfl rfl ?_
          refine r_skip rfl rfl rfl ?_
          refine r_skip rfl rfl rfl ?_
          refine r_d rfl rfl rfl (s_pickT rfl rfl rfl) ?_
          refine r_d rfl rfl rfl (s_move rfl rfl) ?_
          refine r_skip rfl rfl rfl ?_
          refine r_skip rfl rfl rfl ?_
          refine r_skip rfl rfl rfl ?_
          refine r_skip rfl rfl rfl ?_
          refine r_skip rfl rfl rfl ?_
          refine r_skip rfl rfl rfl ?_
          refine r_d rfl rfl rfl (s_pickT rfl rfl rfl) ?_
          refine r_d rfl rfl rfl (s_move rfl rfl) ?_
          refine r_skip rfl rfl rfl ?_
          refine r_skip rfl rfl rfl ?_
          refine r_skip rfl rfl rfl ?_
          refine r_skip rfl rfl rfl ?_
          refine r_skip rfl rfl rfl ?_
          refine r_skip rfl rfl rfl ?_
          refine r_d rfl rfl rfl (s_pickT rfl rfl rfl) ?_
          refine r_end ?_
          refine g_condT rfl ?_
          refine g_seq ?_
          refine g_run (by kernel_rfl) [(0, .d)] rfl ?_
          refine r_d rfl rfl rfl (s_assign rfl rfl) ?_
          refine r_end ?_
          obtain rfl := Option.some.inj hr
          refine g_ret Tryz.func28 _ (.cons (resTmp rfl (Wk.refl _)) .nil) ?_
          rfl
         ·
          refine r_d rfl rfl rfl (s_fieldAddr rfl fl_api_Applied_4 rfl rfl rfl rfl) ?_
          refine r_d rfl rfl rfl (s_load rfl rfl (by exact ty_bool) rfl) ?_
          refine r_d rfl rfl rfl (s_fieldAddr rfl fl_api_Applied_4 rfl rfl rfl rfl) ?_
          refine r_d rfl rfl rfl (s_load rfl rfl (by exact ty_bool) rfl) ?_
          refine r_d rfl rfl rfl (s_neqB rfl Tryz.underlying4 rfl rfl) ?_
          refine r_d rfl rfl rfl (s_pickF rfl rfl rfl) ?_
          refine r_d rfl rfl rfl (s_move rfl rfl) ?_
          refine r_sB 74 rfl hr (fun h74_13 hr => ?_) (fun h74_13 hr => ?_)
          ·
           refine r_skip rfl rfl rfl ?_
           refine r_skip rfl rfl rfl ?_
           refine r_skip rfl rfl rfl ?_
           refine r_skip rfl rfl rfl ?_
           refine r_skip rfl rfl rfl ?_
           refine r_skip rfl rfl rfl ?_
           refine r_d rfl rfl rfl (s_pickT rfl rfl rfl) ?_
           refine r_d rfl rfl rfl (s_move rfl rfl) ?_
           refine r_skip rfl rfl rfl ?_
           refine r_skip rfl rfl rfl ?_
           refine r_skip rfl rfl rfl ?_
           refine r_skip rfl rfl rfl ?_
           refine r_skip rfl rfl rfl ?_
           refine r_skip rfl rfl rfl ?_
           refine r_d rfl rfl rfl (s_pickT rfl rfl rfl) ?_
           refine r_d rfl rfl rfl (s_move rfl rfl) ?_
           refine r_skip rfl rfl rfl ?_
           refine r_skip rfl rfl rfl ?_
           refine r_skip rfl rfl rfl ?_
           refine r_skip rfl rfl rfl ?_
           refine r_skip rfl rfl rfl ?_
           refine r_skip rfl rfl rfl ?_
           refine r_d rfl rfl rfl (s_pickT rfl rfl rfl) ?_
           refine r_d rfl rfl rfl (s_move rfl rfl) ?_
           refine r_skip rfl rfl rfl ?_
           refine r_skip rfl rfl rfl ?_
           refine r_skip rfl rfl rfl ?_
           refine r_skip rfl rfl rfl ?_
           refine r_skip rfl rfl rfl ?_
           refine r_skip rfl rfl rfl ?_
           refine r_d rfl rfl rfl (s_pickT rfl rfl rfl) ?_
           refine r_end ?_
           refine g_condT rfl ?_
           refine g_seq ?_
           refine g_run (by kernel_rfl) [(0, .d)] rfl ?_
           refine r_d rfl rfl rfl (s_assign rfl rfl) ?_
           refine r_end ?_
           obtain rfl := Option.some.inj hr
           refine g_ret Tryz.func28 _ (.cons (resTmp rfl (Wk.refl _)) .nil) ?_
           rfl
          ·
           refine r_d rfl rfl rfl (s_fieldAddr rfl fl_api_Applied_1 rfl rfl rfl rfl) ?_
           refine r_d rfl rfl rfl (s_load rfl rfl (by exact ty_L_int) rfl) ?_
           refine r_d rfl rfl rfl (s_fieldAddr rfl fl_api_Applied_1 rfl rfl rfl rfl) ?_
           refine r_d rfl rfl rfl (s_load rfl rfl (by exact ty_L_int) rfl) ?_
           obtain ⟨r_15, hr_15, hr⟩ := bindS hr
           refine r_d rfl rfl rfl (s_callD rfl cl_constraintref50_same (.cons rfl (Wk.refl _) (.cons rfl (Wk.refl _) .nil)) (lg_constraintref50_same _ _ _ hr_15)) ?_
           refine r_d rfl rfl rfl (s_not rfl rfl) ?_
           refine r_d rfl rfl rfl (s_pickF rfl rfl rfl) ?_
           refine r_d rfl rfl rfl (s_move rfl rfl) ?_
           refine r_sB 82 rfl hr (fun h82_15 hr => ?_) (fun h82_15 hr => ?_)
           ·
            refine r_skip rfl rfl rfl ?_
            refine r_skip rfl rfl rfl ?_
            refine r_skip rfl rfl rfl ?_
            refine r_skip rfl rfl rfl ?_
            refine r_skip rfl rfl rfl ?_
            refine r_skip rfl rfl rfl ?_
            refine r_d rfl rfl rfl (s_pickT rfl rfl rfl) ?_
            refine r_d rfl rfl rfl (s_move rfl rfl) ?_
            refine r_skip rfl rfl rfl ?_
            refine r_skip rfl rfl rfl ?_
            refine r_skip rfl rfl rfl ?_
            refine r_skip rfl rfl rfl ?_
            refine r_skip rfl rfl rfl ?_
            refine r_skip rfl rfl rfl ?_
            refine r_d rfl rfl rfl (s_pickT rfl rfl rfl) ?_
            refine r_d rfl rfl rfl (s_move rfl rfl) ?_
            refine r_skip rfl rfl rfl ?_
            refine r_skip rfl rfl rfl ?_
            refine r_skip rfl rfl rfl ?_
            refine r_skip rfl rfl rfl ?_
            refine r_skip rfl rfl rfl ?_
            refine r_skip rfl rfl rfl ?_
            refine r_d rfl rfl rfl (s_pickT rfl rfl rfl) ?_
            refine r_end ?_
            refine g_condT rfl ?_
            refine g_seq ?_
            refine g_run (by kernel_rfl) [(0, .d)] rfl ?_
            refine r_d rfl rfl rfl (s_assign rfl rfl) ?_
            refine r_end ?_
            obtain rfl := Option.some.inj hr
            refine g_ret Tryz.func28 _ (.cons (resTmp rfl (Wk.refl _)) .nil) ?_
            rfl
           ·
            refine r_d rfl rfl rfl (s_fieldAddr rfl fl_api_Applied_2 rfl rfl rfl rfl) ?_
            refine r_d rfl rfl rfl (s_load rfl rfl (by exact ty_L_int) rfl) ?_
            refine r_d rfl rfl rfl (s_fieldAddr rfl fl_api_Applied_2 rfl rfl rfl rfl) ?_
            refine r_d rfl rfl rfl (s_load rfl rfl (by exact ty_L_int) rfl) ?_
            obtain ⟨r_17, hr_17, hr⟩ := bindS hr
            refine r_d rfl rfl rfl (s_callD rfl cl_constraintref50_same (.cons rfl (Wk.refl _) (.cons rfl (Wk.refl _) .nil)) (lg_constraintref50_same _ _ _ hr_17)) ?_
            refine r_d rfl rfl rfl (s_not rfl rfl) ?_
            refine r_d rfl rfl rfl (s_pickF rfl rfl rfl) ?_
            refine r_d rfl rfl rfl (s_move rfl rfl) ?_
            refine r_sB 90 rfl hr (fun h90_17 hr => ?_) (fun h90_17 hr => ?_)
            ·
             refine r_skip rfl rfl rfl ?_
             refine r_skip rfl rfl rfl ?_
             refine r_skip rfl rfl rfl ?_
             refine r_skip rfl rfl rfl ?_
             refine r_skip rfl rfl rfl ?_
             refine r_skip rfl rfl rfl ?_
             refine r_d rfl rfl rfl (s_pickT rfl rfl rfl) ?_
             refine r_d rfl rfl rfl (s_move rfl rfl) ?_
             refine r_skip rfl rfl rfl ?_
             refine r_skip rfl rfl rfl ?_
             refine r_skip rfl rfl rfl ?_
             refine r_skip rfl rfl rfl ?_
             refine r_skip rfl rfl rfl ?_
             refine r_skip rfl rfl rfl ?_
             refine r_d rfl rfl rfl (s_pickT rfl rfl rfl) ?_
             refine r_end ?_
             refine g_condT rfl ?_
             refine g_seq ?_
             refine g_run (by kernel_rfl) [(0, .d)] rfl ?_
             refine r_d rfl rfl rfl (s_assign rfl rfl) ?_
             refine r_end ?_
             obtain rfl := Option.some.inj hr
             refine g_ret Tryz.func28 _ (.cons (resTmp rfl (Wk.refl _)) .nil) ?_
             rfl
            ·
             refine r_d rfl rfl rfl (s_fieldAddr rfl fl_api_Applied_3 rfl rfl rfl rfl) ?_
             refine r_d rfl rfl rfl (s_load rfl rfl (by exact ty_L_int) rfl) ?_
             refine r_d rfl rfl rfl (s_fieldAddr rfl fl_api_Applied_3 rfl rfl rfl rfl) ?_
             refine r_d rfl rfl rfl (s_load rfl rfl (by exact ty_L_int) rfl) ?_
             obtain ⟨r_19, hr_19, hr⟩ := bindS hr
             refine r_d rfl rfl rfl (s_callD rfl cl_constraintref50_same (.cons rfl (Wk.refl _) (.cons rfl (Wk.refl _) .nil)) (lg_constraintref50_same _ _ _ hr_19)) ?_
             refine r_d rfl rfl rfl (s_not rfl rfl) ?_
             refine r_d rfl rfl rfl (s_pickF rfl rfl rfl) ?_
             refine r_d rfl rfl rfl (s_move rfl rfl) ?_
             refine r_sB 98 rfl hr (fun h98_19 hr => ?_) (fun h98_19 hr => ?_)
             ·
              refine r_skip rfl rfl rfl ?_
              refine r_skip rfl rfl rfl ?_
              refine r_skip rfl rfl rfl ?_
              refine r_skip rfl rfl rfl ?_
              refine r_skip rfl rfl rfl ?_
              refine r_skip rfl rfl rfl ?_
              refine r_d rfl rfl rfl (s_pickT rfl rfl rfl) ?_
              refine r_end ?_
              refine g_condT rfl ?_
              refine g_seq ?_
              refine g_run (by kernel_rfl) [(0, .d)] rfl ?_
              refine r_d rfl rfl rfl (s_assign rfl rfl) ?_
              refine r_end ?_
              obtain rfl := Option.some.inj hr
              refine g_ret Tryz.func28 _ (.cons (resTmp rfl (Wk.refl _)) .nil) ?_
              rfl
             ·
              refine r_d rfl rfl rfl (s_fieldAddr rfl fl_api_Applied_5 rfl rfl rfl rfl) ?_
              refine r_d rfl rfl rfl (s_load rfl rfl (by exact ty_L_int) rfl) ?_
              refine r_d rfl rfl rfl (s_fieldAddr rfl fl_api_Applied_5 rfl rfl rfl rfl) ?_
              refine r_d rfl rfl rfl (s_load rfl rfl (by exact ty_L_int) rfl) ?_
              obtain ⟨r_21, hr_21, hr⟩ := bindS hr
              refine r_d rfl rfl rfl (s_callD rfl cl_constraintref50_same (.cons rfl (Wk.refl _) (.cons rfl (Wk.refl _) .nil)) (lg_constraintref50_same _ _ _ hr_21)) ?_
              refine r_d rfl rfl rfl (s_not rfl rfl) ?_
              refine r_d rfl rfl rfl (s_pickF rfl rfl rfl) ?_
              refine r_end ?_
              refine g_sB 105 rfl hr (fun h105_21 hr => ?_) (fun h105_21 hr => ?_)
              ·
               refine g_condT rfl ?_
               refine g_seq ?_
               refine g_run (by kernel_rfl) [(0, .d)] rfl ?_
               refine r_d rfl rfl rfl (s_assign rfl rfl) ?_
               refine r_end ?_
               obtain rfl := Option.some.inj hr
               refine g_ret Tryz.func28 _ (.cons (resTmp rfl (Wk.refl _)) .nil) ?_
               rfl
              ·
               refine g_condF rfl ?_
               refine g_skip ?_
               refine g_inBlock ?_
               refine g_run (by kernel_rfl) [(0, .d), (1, .d), (2, .d)] rfl ?_
               refine r_d rfl rfl rfl (s_move rfl rfl) ?_
               refine r_d rfl rfl rfl (s_ar (r := ((i_8 + 1 : Nat) : Int)) rfl rfl rfl (by simp [iar]) (by omega)) ?_
               refine r_d rfl rfl rfl (s_assign rfl rfl) ?_
               refine r_end ?_
               refine g_sub [(2, .ptr (enc_S_api_Memory a_a0)), (3, .ptr (enc_S_api_Memory b_a1)), (5, .int .i64 ((i_8 + 1 : Nat) : Int))] (Sub.cons' rfl (Sub.cons' rfl (Sub.cons' rfl (Sub.nil _)))) ?_
               exact IH0 _ _ _ (by omega) ⟨(i_8 + 1), rfl, rfl, rfl, (by omega), hr⟩

noncomputable def lf_constraintlaw52_SnapshotMemories (fuel : Nat) (m_a0 : S_api_Memory) : Option (Bool) :=
  ((lf_constraintlaw52_few m_a0).bind fun r_1 =>
  (bif (!r_1) then
  ((lf_constraintlaw52_exampleHolds fuel).bind fun r_3 =>
  some (r_3))
  else
  ((lf_snapshot_Memory fuel m_a0).bind fun r_4 =>
  ((lf_constraintref52_Memory fuel m_a0).bind fun r_5 =>
  ((lf_constraintlaw52_same r_4 r_5).bind fun r_6 =>
  (bif (!r_6) then
  some (false)
  else
  ((lf_snapshot_TakeMemory fuel r_4).bind fun r_8 =>
  (bif ((r_4.length : Int) == (0 : Int)) then
  (bif (r_8.2 == (4 : Int)) then
  ((lf_constraintlaw52_exampleHolds fuel).bind fun r_12 =>
  some (r_12))
  else
  some (false))
  else
  (bif (r_8.2 == (0 : Int)) then
  ((lf_constraintref50_Same m_a0 r_8.1).bind fun r_14 =>
  (bif r_14 then
  ((lf_constraintlaw52_exampleHolds fuel).bind fun r_16 =>
  some (r_16))
  else
  some (false)))
  else
  some (false))))))))))

set_option maxHeartbeats 1000000 in
theorem lg_constraintlaw52_SnapshotMemories (fuel : Nat) (m_a0 : S_api_Memory) (res : Bool) (hr : lf_constraintlaw52_SnapshotMemories fuel m_a0 = some res) : Gives Tryz.prog 7 [enc_S_api_Memory m_a0] (.bool res) := by
  unfold lf_constraintlaw52_SnapshotMemories at hr
  refine spec_env [(0, enc_S_api_Memory m_a0)] Tryz.func7 rfl rfl fun K hK => ?_
  refine g_seq ?_
  refine g_run (by kernel_rfl) [(0, .d), (1, .d)] rfl ?_
  refine r_d rfl rfl rfl (s_box rfl rfl rfl) ?_
  refine r_d rfl rfl rfl (s_assign rfl rfl) ?_
  refine r_end ?_
  refine g_seq ?_
  refine g_seq ?_
  refine g_run (by kernel_rfl) [(0, .d), (1, .d), (2, .d)] rfl ?_
  refine r_d rfl rfl rfl (s_load rfl rfl (by exact ty_api_Memory) (sz_S_api_Memory _)) ?_
  obtain ⟨r_1, hr_1, hr⟩ := bindS hr
  refine r_d rfl rfl rfl (s_callD rfl cl_constraintlaw52_few (.cons rfl (Wk.refl _) .nil) (lg_constraintlaw52_few _ _ hr_1)) ?_
  refine r_d rfl rfl rfl (s_not rfl rfl) ?_
  refine r_end ?_
  refine g_sB 8 rfl hr (fun h8_1 hr => ?_) (fun h8_1 hr => ?_)
  ·
   refine g_condT rfl ?_
   refine g_seq ?_
   refine g_run (by kernel_rfl) [(0, .d), (1, .d)] rfl ?_
   obtain ⟨r_3, hr_3, hr⟩ := bindS hr
   refine r_d rfl rfl rfl (s_callD rfl cl_constraintlaw52_exampleHolds .nil (lg_constraintlaw52_exampleHolds fuel _ hr_3)) ?_
   refine r_d rfl rfl rfl (s_assign rfl rfl) ?_
   refine r_end ?_
   obtain rfl := Option.some.inj hr
   refine g_ret Tryz.func7 _ (.cons (resTmp rfl (Wk.refl _)) .nil) ?_
   rfl
  ·
   refine g_condF rfl ?_
   refine g_skip ?_
   refine g_seq ?_
   refine g_run (by kernel_rfl) [(0, .d), (1, .d), (2, .d)] rfl ?_
   refine r_d rfl rfl rfl (s_load rfl rfl (by exact ty_api_Memory) (sz_S_api_Memory _)) ?_
   obtain ⟨r_4, hr_4, hr⟩ := bindS hr
   refine r_d rfl rfl rfl (s_callD rfl cl_snapshot_Memory (.cons rfl (Wk.refl _) .nil) (lg_snapshot_Memory fuel _ _ hr_4)) ?_
   refine r_d rfl rfl rfl (s_assign rfl rfl) ?_
   refine r_end ?_
   refine g_seq ?_
   refine g_seq ?_
   refine g_run (by kernel_rfl) [(0, .d), (1, .d), (2, .d), (3, .d), (4, .d)] rfl ?_
   refine r_d rfl rfl rfl (s_move rfl rfl) ?_
   refine r_d rfl rfl rfl (s_load rfl rfl (by exact ty_api_Memory) (sz_S_api_Memory _)) ?_
   obtain ⟨r_5, hr_5, hr⟩ := bindS hr
   refine r_d rfl rfl rfl (s_callD rfl cl_constraintref52_Memory (.cons rfl (Wk.refl _) .nil) (lg_constraintref52_Memory fuel _ _ hr_5)) ?_
   obtain ⟨r_6, hr_6, hr⟩ := bindS hr
   refine r_d rfl rfl rfl (s_callD rfl cl_constraintlaw52_same (.cons rfl (Wk.refl _) (.cons rfl (Wk.refl _) .nil)) (lg_constraintlaw52_same _ _ _ hr_6)) ?_
   refine r_d rfl rfl rfl (s_not rfl rfl) ?_
   refine r_end ?_
   refine g_sB 16 rfl hr (fun h16_6 hr => ?_) (fun h16_6 hr => ?_)
   ·
    refine g_condT rfl ?_
    refine g_seq ?_
    refine g_run (by kernel_rfl) [(0, .d)] rfl ?_
    refine r_d rfl rfl rfl (s_assign rfl rfl) ?_
    refine r_end ?_
    obtain rfl := Option.some.inj hr
    refine g_ret Tryz.func7 _ (.cons (resTmp rfl (Wk.refl _)) .nil) ?_
    rfl
   ·
    refine g_condF rfl ?_
    refine g_skip ?_
    refine g_seq ?_
    refine g_run (by kernel_rfl) [(0, .d), (1, .d), (2, .d), (3, .d), (4, .d), (5, .w), (6, .w), (7, .d)] rfl ?_
    refine r_d rfl rfl rfl (s_move rfl rfl) ?_
    obtain ⟨r_8, hr_8, hr⟩ := bindS hr
    refine r_d rfl rfl rfl (s_callD rfl cl_snapshot_TakeMemory (.cons rfl (Wk.refl _) .nil) (lg_snapshot_TakeMemory fuel _ _ hr_8)) ?_
    refine r_d rfl rfl rfl (s_move rfl rfl) ?_
    refine r_d rfl rfl rfl (s_extract rfl rfl rfl) ?_
    refine r_d rfl rfl rfl (s_extract rfl rfl rfl) ?_
    refine r_w rfl rfl rfl (s_alloc rfl zv_api_Memory) ?_
    rintro _ _ ⟨b4_8, rfl, rfl⟩
    refine r_w01 rfl rfl rfl (t_store0 _ rfl rfl rfl (Wk.refl _) (pf0 _) (by exact ty_api_Memory) (sz_S_api_Memory _) rfl rfl) ?_
    refine r_d rfl rfl rfl (s_assign rfl rfl) ?_
    refine r_end ?_
    refine g_freeze 4 b4_8 rfl (pf0 _) ?_
    refine g_seq ?_
    refine g_seq ?_
    refine g_run (by kernel_rfl) [(0, .d), (1, .d), (2, .d)] rfl ?_
    refine r_d rfl rfl rfl (s_move rfl rfl) ?_
    refine r_d rfl rfl rfl (m_len (f := (D.int .u8)) r_4 rfl el_L_uint8 rfl (asl rfl)) ?_
    refine r_d rfl rfl rfl (s_cmp rfl rfl rfl rfl) ?_
    refine r_end ?_
    refine g_sB 24 rfl hr (fun h24_9 hr => ?_) (fun h24_9 hr => ?_)
    ·
     refine g_condT rfl ?_
     refine g_seq ?_
     refine g_run (by kernel_rfl) [(0, .d), (1, .d), (2, .d), (3, .d), (4, .d), (5, .d)] rfl ?_
     refine r_d rfl rfl rfl (s_move rfl rfl) ?_
     refine r_d rfl rfl rfl (s_cmp rfl rfl rfl rfl) ?_
     refine r_d rfl rfl rfl (s_move rfl rfl) ?_
     refine r_sB 27 rfl hr (fun h27_10 hr => ?_) (fun h27_10 hr => ?_)
     ·
      obtain ⟨r_12, hr_12, hr⟩ := bindS hr
      refine r_d rfl rfl rfl (s_callD rfl cl_constraintlaw52_exampleHolds .nil (lg_constraintlaw52_exampleHolds fuel _ hr_12)) ?_
      refine r_d rfl rfl rfl (s_pickT rfl rfl rfl) ?_
      refine r_d rfl rfl rfl (s_assign rfl rfl) ?_
      refine r_end ?_
      obtain rfl := Option.some.inj hr
      refine g_ret Tryz.func7 _ (.cons (resTmp rfl (Wk.refl _)) .nil) ?_
      rfl
     ·
      refine r_skip rfl rfl rfl ?_
      refine r_d rfl rfl rfl (s_pickF rfl rfl rfl) ?_
      refine r_d rfl rfl rfl (s_assign rfl rfl) ?_
      refine r_end ?_
      obtain rfl := Option.some.inj hr
      refine g_ret Tryz.func7 _ (.cons (resTmp rfl (Wk.refl _)) .nil) ?_
      rfl
    ·
     refine g_condF rfl ?_
     refine g_skip ?_
     refine g_seq ?_
     refine g_run (by kernel_rfl) [(0, .d), (1, .d), (2, .d), (3, .d), (4, .d), (5, .d), (6, .d), (7, .d), (8, .d), (9, .d), (10, .d)] rfl ?_
     refine r_d rfl rfl rfl (s_move rfl rfl) ?_
     refine r_d rfl rfl rfl (s_cmp rfl rfl rfl rfl) ?_
     refine r_d rfl rfl rfl (s_move rfl rfl) ?_
     refine r_sB 32 rfl hr (fun h32_12 hr => ?_) (fun h32_12 hr => ?_)
     ·
      refine r_d rfl rfl rfl (s_load rfl rfl (by exact ty_api_Memory) (sz_S_api_Memory _)) ?_
      refine r_d rfl rfl rfl (s_load rfl rfl (by exact ty_api_Memory) (sz_S_api_Memory _)) ?_
      obtain ⟨r_14, hr_14, hr⟩ := bindS hr
      refine r_d rfl rfl rfl (s_callD rfl cl_constraintref50_Same (.cons rfl (Wk.refl _) (.cons rfl (Wk.refl _) .nil)) (lg_constraintref50_Same _ _ _ hr_14)) ?_
      refine r_d rfl rfl rfl (s_pickT rfl rfl rfl) ?_
      refine r_d rfl rfl rfl (s_move rfl rfl) ?_
      refine r_sB 37 rfl hr (fun h37_14 hr => ?_) (fun h37_14 hr => ?_)
      ·
       obtain ⟨r_16, hr_16, hr⟩ := bindS hr
       refine r_d rfl rfl rfl (s_callD rfl cl_constraintlaw52_exampleHolds .nil (lg_constraintlaw52_exampleHolds fuel _ hr_16)) ?_
       refine r_d rfl rfl rfl (s_pickT rfl rfl rfl) ?_
       refine r_d rfl rfl rfl (s_assign rfl rfl) ?_
       refine r_end ?_
       obtain rfl := Option.some.inj hr
       refine g_ret Tryz.func7 _ (.cons (resTmp rfl (Wk.refl _)) .nil) ?_
       rfl
      ·
       refine r_skip rfl rfl rfl ?_
       refine r_d rfl rfl rfl (s_pickF rfl rfl rfl) ?_
       refine r_d rfl rfl rfl (s_assign rfl rfl) ?_
       refine r_end ?_
       obtain rfl := Option.some.inj hr
       refine g_ret Tryz.func7 _ (.cons (resTmp rfl (Wk.refl _)) .nil) ?_
       rfl
     ·
      refine r_skip rfl rfl rfl ?_
      refine r_skip rfl rfl rfl ?_
      refine r_skip rfl rfl rfl ?_
      refine r_d rfl rfl rfl (s_pickF rfl rfl rfl) ?_
      refine r_d rfl rfl rfl (s_move rfl rfl) ?_
      refine r_skip rfl rfl rfl ?_
      refine r_d rfl rfl rfl (s_pickF rfl rfl rfl) ?_
      refine r_d rfl rfl rfl (s_assign rfl rfl) ?_
      refine r_end ?_
      obtain rfl := Option.some.inj hr
      refine g_ret Tryz.func7 _ (.cons (resTmp rfl (Wk.refl _)) .nil) ?_
      rfl

end Go.Proofs.YtdoljfkjdfaakaaGreat


namespace Go.Proofs.YtdoljfkjdfaakaaGreat
set_option maxRecDepth 100000
open Go.RowKit

/-! ### names are strings of the machine -/
theorem nmM_of {p : Addr → Prop} {w : World} {m : S_api_Memory} {v : Value} (h : Rep p w (enc_S_api_Memory m) v) : (∀ x ∈ m.f0_Facts, x.f1_Atom.n.size ≤ 9223372036854775807) ∧ ∀ x ∈ m.f1_Past, x.f1_Atom.n.size ≤ 9223372036854775807 := by
  obtain ⟨_, h1⟩ := agg_mem h (.lst (m.f0_Facts.map enc_S_api_Fact)) (by simp)
  obtain ⟨_, h2⟩ := agg_mem h (.lst (m.f1_Past.map enc_S_api_Fact)) (by simp)
  refine ⟨fun x hx => ?_, fun x hx => ?_⟩
  · obtain ⟨_, h3⟩ := lst_mem h1 x hx
    obtain ⟨_, h4⟩ := agg_mem h3 (encA x.f1_Atom) (by simp)
    exact nmA1 h4
  · obtain ⟨_, h3⟩ := lst_mem h2 x hx
    obtain ⟨_, h4⟩ := agg_mem h3 (encA x.f1_Atom) (by simp)
    exact nmA1 h4

/-! ### memories that are few -/
theorem few_L2 (k : Option Bool) {kb : Bool} (hk : k = some kb) : ∀ l : List S_api_Applied, TotP (lf_constraintlaw52_few_L2 k l) fun b => b = true → kb = true
  | [] => ⟨kb, by rw [lf_constraintlaw52_few_L2, hk], id⟩
  | x :: l => by
    rw [lf_constraintlaw52_few_L2]
    exact .cond (fun _ => .pure fun h => by cases h) fun _ => .cond (fun _ => .pure fun h => by cases h) fun _ => .cond (fun _ => .pure fun h => by cases h) fun _ => .cond (fun _ => .pure fun h => by cases h) fun _ => few_L2 k hk l
theorem few_L1 {Q : Prop} (k : List At → Option Bool) : ∀ (l : List S_api_Fact) (acc : List At), acc.length + l.length ≤ 1000 → (TotP (k (acc ++ l.map S_api_Fact.f1_Atom)) fun b => b = true → Q) → TotP (lf_constraintlaw52_few_L1 k l acc) fun b => b = true → Q
  | [], acc, _, h => by
    rw [lf_constraintlaw52_few_L1]
    simpa using h
  | x :: l, acc, hl, h => by
    rw [lf_constraintlaw52_few_L1, appO_eq (by simp only [List.length_cons, List.length_nil] at hl ⊢; omega) (by simp only [List.length_cons, List.length_nil] at hl ⊢; omega), Option.bind_some]
    exact .cond (fun _ => .pure fun h => by cases h) fun _ => few_L1 k l _ (by simp only [List.length_append, List.length_cons, List.length_nil] at hl ⊢; omega) (by simpa using h)
theorem few_L0 {Q : Prop} (k : List At → Option Bool) : ∀ (l : List S_api_Fact) (acc : List At), acc.length + l.length ≤ 1000 → (TotP (k (acc ++ l.map S_api_Fact.f1_Atom)) fun b => b = true → Q) → TotP (lf_constraintlaw52_few_L0 k l acc) fun b => b = true → Q
  | [], acc, _, h => by
    rw [lf_constraintlaw52_few_L0]
    simpa using h
  | x :: l, acc, hl, h => by
    rw [lf_constraintlaw52_few_L0, appO_eq (by simp only [List.length_cons, List.length_nil] at hl ⊢; omega) (by simp only [List.length_cons, List.length_nil] at hl ⊢; omega), Option.bind_some]
    exact .cond (fun _ => .pure fun h => by cases h) fun _ => few_L0 k l _ (by simp only [List.length_append, List.length_cons, List.length_nil] at hl ⊢; omega) (by simpa using h)
theorem few_lf (m : S_api_Memory) (hn : (∀ x ∈ m.f0_Facts, x.f1_Atom.n.size ≤ 9223372036854775807) ∧ ∀ x ∈ m.f1_Past, x.f1_Atom.n.size ≤ 9223372036854775807) : TotP (lf_constraintlaw52_few m) fun b => b = true → (∀ x ∈ m.f0_Facts, wtL x.f1_Atom.ts ≤ 1000000000) ∧ ∀ x ∈ m.f1_Past, wtL x.f1_Atom.ts ≤ 1000000000 := by
  unfold lf_constraintlaw52_few
  refine .cond (fun _ => .pure fun h => by cases h) fun h1 => .cond (fun _ => .pure fun h => by cases h) fun h2 => .cond (fun _ => .pure fun h => by cases h) fun h3 => ?_
  have h1 := of_decide_eq_false h1
  have h2 := of_decide_eq_false h2
  refine few_L0 _ _ _ (by simp only [List.length_nil]; omega) ?_
  rw [List.nil_append]
  refine few_L1 _ _ _ (by simp only [List.length_map]; omega) ?_
  obtain ⟨b, e1, e2⟩ := greatAtoms_lf (m.f0_Facts.map S_api_Fact.f1_Atom ++ m.f1_Past.map S_api_Fact.f1_Atom) 600 (by omega) (fun a ha => by
    rcases List.mem_append.1 ha with ha | ha
    · obtain ⟨x, hx, rfl⟩ := List.mem_map.1 ha
      exact hn.1 x hx
    · obtain ⟨x, hx, rfl⟩ := List.mem_map.1 ha
      exact hn.2 x hx)
  refine (few_L2 _ (kb := !b) (by rw [e1]; rfl) m.f2_Log).mono fun r hr hr1 => ?_
  have hb : b = false := by
    have := hr hr1
    cases b
    · rfl
    · cases this
  have hw := e2 hb
  refine ⟨fun x hx => ?_, fun x hx => ?_⟩
  · have := wA_mem (List.mem_append_left (m.f1_Past.map S_api_Fact.f1_Atom) (List.mem_map_of_mem (f := S_api_Fact.f1_Atom) hx))
    omega
  · have := wA_mem (List.mem_append_right (m.f0_Facts.map S_api_Fact.f1_Atom) (List.mem_map_of_mem (f := S_api_Fact.f1_Atom) hx))
    omega

/-! ### states that are small, of bulk at most 1048576 -/
end Go.Proofs.YtdoljfkjdfaakaaGreat


namespace Go.Proofs.YtdoljfkjdfaakaaGreat
set_option maxRecDepth 100000
open Go.RowKit

theorem at_pre {α : Type} (pre : List α) (q : α) (l : List α) : getI (pre ++ q :: l) (pre.length : Int) = some q := by
  rw [getI_nat]
  simp
theorem lt_pre {α : Type} (pre : List α) (q : α) (l : List α) : decide ((pre.length : Int) < ((pre ++ q :: l).length : Int)) = true := decide_eq_true (by simp only [List.length_append, List.length_cons]; omega)
theorem pre_snoc {α : Type} (pre : List α) (q : α) (l : List α) : pre ++ q :: l = (pre ++ [q]) ++ l := by simp
theorem len_snoc {α : Type} (pre : List α) (q : α) : pre.length + 1 = (pre ++ [q]).length := by simp
theorem eq_self (n : Int) : (n != n) = false := by simp
theorem cmpA_self (a : At) : (cmpA a a == 0) = true := by
  unfold cmpA
  rw [cmpS_eq, show cmpB a.n.toList a.n.toList = 0 by have := neg_B a.n.toList a.n.toList; omega, cmpI_self, cmpL_self]
  rfl
theorem xA_self (a : At) (h : wtL a.ts ≤ 1000000000) : x_sameA a a = some true := by rw [x_sameA_eq _ _ h, cmpA_self]
theorem len_self (n : Nat) : ((n : Int) != (n : Int)) = false := by simp
theorem ints_L (k : Option Bool) : ∀ (l pre : List Int), lf_constraintref03_SameInts_L0 k (pre ++ l) l pre.length = k
  | [], pre => by rw [lf_constraintref03_SameInts_L0]
  | q :: l, pre => by
    rw [lf_constraintref03_SameInts_L0]
    simp only [lt_pre, at_pre, Option.bind_some, eq_self, Bool.not_true, cond_true, cond_false]
    have := ints_L k l (pre ++ [q])
    rw [← pre_snoc, ← len_snoc] at this
    exact this
theorem same50_L (k : Option Bool) : ∀ (l pre : List Int), lf_constraintref50_same_L0 k (pre ++ l) l pre.length = k
  | [], pre => by rw [lf_constraintref50_same_L0]
  | q :: l, pre => by
    rw [lf_constraintref50_same_L0]
    simp only [lt_pre, at_pre, Option.bind_some, eq_self, Bool.not_true, cond_true, cond_false]
    have := same50_L k l (pre ++ [q])
    rw [← pre_snoc, ← len_snoc] at this
    exact this
theorem ints_self (l : List Int) : lf_constraintref03_SameInts l l = some true := by
  unfold lf_constraintref03_SameInts
  rw [len_self, cond_false]
  exact ints_L (some true) l []
theorem same50_self (l : List Int) : lf_constraintref50_same l l = some true := by
  unfold lf_constraintref50_same
  rw [len_self, cond_false]
  exact same50_L (some true) l []
theorem fact_self (x : S_api_Fact) (h : wtL x.f1_Atom.ts ≤ 1000000000) : lf_constraintref49_Same x x = some true := by
  unfold lf_constraintref49_Same
  simp only [beq_self_eq_true, cond_true, xA_self _ h, ints_self, Option.bind_some]
theorem facts_L (k : Option Bool) : ∀ (l pre : List S_api_Fact), (∀ q ∈ l, wtL q.f1_Atom.ts ≤ 1000000000) → lf_constraintref50_sameFacts_L0 k (pre ++ l) l pre.length = k
  | [], pre, _ => by rw [lf_constraintref50_sameFacts_L0]
  | q :: l, pre, h => by
    rw [lf_constraintref50_sameFacts_L0]
    have hq := h q (by simp)
    simp only [lt_pre, at_pre, Option.bind_some, fact_self q hq, Bool.not_true, cond_true, cond_false]
    have := facts_L k l (pre ++ [q]) fun x hx => h x (by simp [hx])
    rw [← pre_snoc, ← len_snoc] at this
    exact this
theorem facts_self (l : List S_api_Fact) (h : ∀ q ∈ l, wtL q.f1_Atom.ts ≤ 1000000000) : lf_constraintref50_sameFacts l l = some true := by
  unfold lf_constraintref50_sameFacts
  rw [len_self, cond_false]
  exact facts_L (some true) l [] h
theorem log_L (k : Option Bool) (m : S_api_Memory) : ∀ (l pre : List S_api_Applied), m.f2_Log = pre ++ l → lf_constraintref50_Same_L0 k m l pre.length = k
  | [], pre, _ => by rw [lf_constraintref50_Same_L0]
  | q :: l, pre, hm => by
    rw [lf_constraintref50_Same_L0, hm]
    have hb : (q.f4_Failed != q.f4_Failed) = false := by simp
    simp only [at_pre, Option.bind_some, eq_self, hb, same50_self, Bool.not_true, cond_false]
    have := log_L k m l (pre ++ [q]) (by rw [hm, pre_snoc])
    rw [← len_snoc] at this
    exact this
theorem memory_self (m : S_api_Memory) (h1 : ∀ q ∈ m.f0_Facts, wtL q.f1_Atom.ts ≤ 1000000000) (h2 : ∀ q ∈ m.f1_Past, wtL q.f1_Atom.ts ≤ 1000000000) : lf_constraintref50_Same m m = some true := by
  unfold lf_constraintref50_Same
  simp only [facts_self _ h1, facts_self _ h2, Option.bind_some, Bool.not_true, cond_false, eq_self, len_self]
  exact log_L (some true) m m.f2_Log [] rfl
end Go.Proofs.YtdoljfkjdfaakaaGreat


namespace Go.Proofs.YtdoljfkjdfaakaaGreat
set_option maxRecDepth 100000
open Go.RowKit

theorem take_Memory (fuel : Nat) (b : List Int) : lf_snapshot_TakeMemory fuel b = lf_wholeR_Memory fuel b 3 := by
  unfold lf_snapshot_TakeMemory
  cases lf_wholeR_Memory fuel b 3 <;> rfl
theorem len_ne {e : List Int} (h : e ≠ []) : ((e.length : Int) == 0) = false := by
  rw [beq_eq_false_iff_ne]
  have := List.length_pos_iff.2 h
  omega
theorem memories_lf (m : S_api_Memory) (hn : (∀ x ∈ m.f0_Facts, x.f1_Atom.n.size ≤ 9223372036854775807) ∧ ∀ x ∈ m.f1_Past, x.f1_Atom.n.size ≤ 9223372036854775807) : lf_constraintlaw52_SnapshotMemories 30 m = some true := by
  unfold lf_constraintlaw52_SnapshotMemories
  simp only [ex52, Option.bind_some]
  obtain ⟨b, e1, e2⟩ := few_lf m hn
  rw [e1, Option.bind_some]
  refine cT (fun _ => rfl) fun hb => ?_
  obtain ⟨h1, h2⟩ := e2 (by simpa using hb)
  have hw := wr_Memory (fuel := 30) (by omega) m h1 h2
  simp only [hw, wrR_Memory (fuel := 30) (by omega) m h1 h2, same52_self, take_Memory, Option.bind_some, Bool.not_true, cond_false]
  cases he : eMemory m with
  | none =>
    simp only [Option.getD_none, whole0_Memory, Option.bind_some]
    rfl
  | some e =>
    rw [he] at hw
    have h := (whole_Memory (fuel := 30) (by omega) he hw (len_Memory (fuel := 30) (by omega) m h1 h2 e he)).1
    simp only [Option.getD_some, h, Option.bind_some, len_ne (catO_pos he), cond_false, memory_self m h1 h2]
    rfl
theorem gives_SnapshotMemories (m : S_api_Memory) : Gives Tryz.prog 7 [enc_S_api_Memory m] (.bool true) := fun w q vs hi hv => by
  have hv' := hv
  simp only [Repl] at hv'
  obtain ⟨v, _, _, h, _⟩ := hv'
  exact lg_constraintlaw52_SnapshotMemories 30 m true (memories_lf m (nmM_of h)) w q vs hi hv

/-! ### cuts -/
end Go.Proofs.YtdoljfkjdfaakaaGreat


namespace Go.Proofs.YtdoljfkjdfaakaaGreat
set_option maxRecDepth 100000
open Go.ChangeShapes Go.WideShapes Go.ChangeAt Go.RowKit

theorem op_ints52 : Op 121 1 fun d => ∃ l : List Int, d = .lst (l.map (D.int .i64)) := op_list (f := D.int .i64) Tryz.underlying121 cells_int (by omega) (op_i64 Tryz.underlying3)
theorem op_fact : Op 146 4 fun d => ∃ x, d = enc_S_api_Fact x :=
  (op_struct Tryz.underlying146 [fun d => ∃ n, d = .int .i64 n, fun d => ∃ a, d = encA a, fun d => ∃ l : List Int, d = .lst (l.map (D.int .i64))] ⟨op_i64 Tryz.underlying3, op_atom, op_ints52, trivial⟩ (by kernel_rfl) (by kernel_rfl) (by kernel_rfl)).to fun d ⟨ds, hd, h⟩ => by
    match ds, h with
    | [_, _, _], ⟨⟨x0, rfl⟩, ⟨x1, rfl⟩, ⟨x2, rfl⟩, _⟩ => exact ⟨⟨x0, x1, x2⟩, hd⟩
theorem op_facts : Op 52 1 fun d => ∃ l : List S_api_Fact, d = .lst (l.map enc_S_api_Fact) := op_list Tryz.underlying52 (by kernel_rfl) (by omega) op_fact
theorem op_applied : Op 148 6 fun d => ∃ x, d = enc_S_api_Applied x :=
  (op_struct Tryz.underlying148 [fun d => ∃ n, d = .int .i64 n, fun d => ∃ l : List Int, d = .lst (l.map (D.int .i64)), fun d => ∃ l : List Int, d = .lst (l.map (D.int .i64)), fun d => ∃ l : List Int, d = .lst (l.map (D.int .i64)), fun d => ∃ b, d = .bool b, fun d => ∃ l : List Int, d = .lst (l.map (D.int .i64))] ⟨op_i64 Tryz.underlying3, op_ints52, op_ints52, op_ints52, op_bool Tryz.underlying4, op_ints52, trivial⟩ (by kernel_rfl) (by kernel_rfl) (by kernel_rfl)).to fun d ⟨ds, hd, h⟩ => by
    match ds, h with
    | [_, _, _, _, _, _], ⟨⟨x0, rfl⟩, ⟨x1, rfl⟩, ⟨x2, rfl⟩, ⟨x3, rfl⟩, ⟨x4, rfl⟩, ⟨x5, rfl⟩, _⟩ => exact ⟨⟨x0, x1, x2, x3, x4, x5⟩, hd⟩
theorem op_log : Op 53 1 fun d => ∃ l : List S_api_Applied, d = .lst (l.map enc_S_api_Applied) := op_list Tryz.underlying53 (by kernel_rfl) (by omega) op_applied
theorem op_memory : Op 55 5 fun d => ∃ x, d = enc_S_api_Memory x :=
  (op_struct Tryz.underlying55 [fun d => ∃ l : List S_api_Fact, d = .lst (l.map enc_S_api_Fact), fun d => ∃ l : List S_api_Fact, d = .lst (l.map enc_S_api_Fact), fun d => ∃ l : List S_api_Applied, d = .lst (l.map enc_S_api_Applied), fun d => ∃ n, d = .int .i64 n, fun d => ∃ n, d = .int .i64 n] ⟨op_facts, op_facts, op_log, op_i64 Tryz.underlying3, op_i64 Tryz.underlying3, trivial⟩ (by kernel_rfl) (by kernel_rfl) (by kernel_rfl)).to fun d ⟨ds, hd, h⟩ => by
    match ds, h with
    | [_, _, _, _, _], ⟨⟨x0, rfl⟩, ⟨x1, rfl⟩, ⟨x2, rfl⟩, ⟨x3, rfl⟩, ⟨x4, rfl⟩, _⟩ => exact ⟨⟨x0, x1, x2, x3, x4⟩, hd⟩
def aMemory : Arg := ⟨_, _, _, op_memory, (cl_struct Tryz.underlying55).to fun _ ⟨_, h⟩ => ⟨_, h⟩⟩
end Go.Proofs.YtdoljfkjdfaakaaGreat

