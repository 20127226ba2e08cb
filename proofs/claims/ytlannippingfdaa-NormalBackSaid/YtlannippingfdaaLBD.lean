/-
  Texts of the seat, merged.
-/
import Derived.Test.YtlannippingfdaaLBA
import Derived.Test.YtlannippingfdaaLBB
import Derived.Test.YtlannippingfdaaLBC
import Derived.Test.YtlannippingfdaaChecked
import Derived.WalkKit
import Derived.Lib.Hide
import Derived.Lib.AppendStr
import Derived.Deep.AppendLies
import Derived.Deep.AppendSrc
import Derived.Deep.Draws
import Derived.Deep.QuietTactic
import Derived.BigQuiet
import Derived.Deep.RegionWith
import Derived.Maps.AppendAt
import Derived.WalkSpells
import Derived.Deep.Slices
import Derived.Deep.Fields
import Derived.ChangeArms
import Derived.Orders
import Derived.RangeFuncNested
import Derived.RangeFuncBound
import Derived.RangeFuncCalls
import Derived.RangeFuncLeaves
import Derived.Shelf.Abstract
import Derived.OwnWalkIn
import Derived.TacticsInMore
import Derived.LoopNIn
import Derived.LoopIn
import Derived.Lib.OthersKept
import Derived.Lib.TrimU
import Derived.Lib.IndexAny
import Derived.Deep.LoopGhost
import Derived.Lib.Bytealg
import Derived.RangeFuncBox
import Derived.RangeFuncWrites
import Derived.Maps.OwnIn
import Derived.Maps.Views
import Derived.Laws.OwnMore
import Derived.Maps.OwnSet
import Derived.Test.YtlannippingfdaaRows
import Derived.ProofKit
import Derived.OpenShut
import Derived.Carry
import Derived.OrdersIn
import Derived.Great.BuildSlice
import Derived.ArgAppend
import Derived.Laws.MakeOwn
import Derived.Laws.Cover3
import Derived.Laws.CopyRow
import Derived.MapKept
import Derived.Maps.RangeRun
import Derived.DeepKeys5
import Derived.WideKeyRuns
set_option linter.unusedVariables false
set_option linter.unusedSimpArgs false
set_option linter.unnecessarySimpa false
set_option linter.all false

namespace Go.Proofs.Ytlannippingfdaa
set_option maxRecDepth 100000
open Go.RowKit

structure S_api_Rule where
  f0_Name : ByteArray
  f1_Keep : (List At)
  f2_Remove : (List At)
  f3_Guard : (List Gl)
  f4_Body : (List Gl)
  f5_Vars : Int

def enc_S_api_Rule (x : S_api_Rule) : D := .agg [.str x.f0_Name, .lst (x.f1_Keep.map encA), .lst (x.f2_Remove.map encA), .lst (x.f3_Guard.map encG), .lst (x.f4_Body.map encG), .int .i64 x.f5_Vars]

theorem sz_S_api_Rule (x : S_api_Rule) : sz (enc_S_api_Rule x) = 6 := by
  simp only [enc_S_api_Rule, sz, szs]

theorem zm_int : ZeroM Try.prog 3 (.int .i64 0) := ⟨.int .i64 0, by kernel_rfl, fun _ _ => by simp only [Rep]; exact ⟨trivial, rfl⟩⟩

noncomputable def lfo_source_numbering_term_s1 (rec : (List T) → (List (Int × Int)) → Option ((List T) × (List (Int × Int)))) (t_a1 : T) (s_0 : (List (Int × Int))) : Option (T × (List (Int × Int))) :=
  (bif (t_a1.k == (1 : Int)) then
  (bif (!((mget s_0 t_a1.i).isSome)) then
  ((mputO s_0 t_a1.i (s_0.length : Int)).bind fun mm_5 =>
  some ((T.mk t_a1.k (s_0.length : Int) t_a1.s t_a1.ar), mm_5))
  else
  some ((T.mk t_a1.k ((mget s_0 t_a1.i).getD 0) t_a1.s t_a1.ar), s_0))
  else
  (bif (t_a1.k == (2 : Int)) then
  ((rec t_a1.ar s_0).bind fun r_7 =>
  some ((T.mk t_a1.k t_a1.i t_a1.s r_7.1), r_7.2))
  else
  some ((T.mk t_a1.k t_a1.i t_a1.s t_a1.ar), s_0)))

set_option maxHeartbeats 1000000 in
theorem lgo_source_numbering_term_s1 (rec : (List T) → (List (Int × Int)) → Option ((List T) × (List (Int × Int)))) (IHR : ∀ (l_a0 : (List T)) (s_0 : (List (Int × Int))) (m_o0 : Nat) (res : (List T) × (List (Int × Int))), rec l_a0 s_0 = some res → Spec Try.prog 61 [.lst (l_a0.map encT), .clo (.func 62) [.map m_o0] []] [.map m_o0 (mapM' (D.int .i64) (D.int .i64) s_0)] (fun d σ => d = .lst (res.1.map encT) ∧ σ = [.map m_o0 (mapM' (D.int .i64) (D.int .i64) res.2)])) (t_a1 : T) (s_0 : (List (Int × Int))) (m_o0 : Nat) (res : T × (List (Int × Int))) (hr : lfo_source_numbering_term_s1 rec t_a1 s_0 = some res) : Spec Try.prog 62 [.map m_o0, encT t_a1] [.map m_o0 (mapM' (D.int .i64) (D.int .i64) s_0)] (fun d σ => d = encT res.1 ∧ σ = [.map m_o0 (mapM' (D.int .i64) (D.int .i64) res.2)]) := by
  unfold lfo_source_numbering_term_s1 at hr
  refine spec_env [(0, .map m_o0), (1, encT t_a1)] Try.func62 rfl rfl fun K hK => ?_
  refine g_seq ?_
  refine g_run (by kernel_rfl) [(0, .w), (1, .w)] rfl ?_
  refine r_w rfl rfl rfl (s_boxRef rfl rfl rfl) ?_
  rintro _ _ ⟨b3_0, rfl, rfl⟩
  refine r_st [.cell b3_0 (.agg [.int .i64 t_a1.k, .int .i64 t_a1.i, .str t_a1.s, .lst (t_a1.ar.map encT)]), .map m_o0 (mapM' (D.int .i64) (D.int .i64) s_0)] (by simp only [encT, fsT_eq]) ?_
  refine r_w rfl rfl rfl (s_alloc rfl zv_api_Term) ?_
  rintro _ _ ⟨b4_1, rfl, rfl⟩
  refine r_end ?_
  refine g_seq ?_
  refine g_seq ?_
  refine g_run (by kernel_rfl) [(0, .d), (1, .r)] rfl ?_
  refine r_d rfl rfl rfl (s_fieldRef rfl fl_api_Term_0 rfl) ?_
  refine r_r rfl rfl rfl (t_loadRef rfl rfl (.tail _ (.head _)) rfl rfl (by exact ty_int) rfl) ?_
  refine r_end ?_
  refine g_block ?_
  refine g_seq ?_
  refine g_run (by kernel_rfl) [(0, .d), (1, .d)] rfl ?_
  refine r_d rfl rfl rfl (s_cmp rfl rfl rfl rfl) ?_
  refine r_d rfl rfl rfl (s_assign rfl rfl) ?_
  refine r_end ?_
  refine g_sB 9 rfl hr (fun h9_2 hr => ?_) (fun h9_2 hr => ?_)
  ·
   refine g_condT rfl ?_
   refine g_seq ?_
   refine g_run (by kernel_rfl) [(0, .d), (1, .d), (2, .r), (3, .r), (4, .d), (5, .d), (6, .d), (7, .d), (8, .d)] rfl ?_
   refine r_d rfl rfl rfl (s_move rfl rfl) ?_
   refine r_d rfl rfl rfl (s_fieldRef rfl fl_api_Term_1 rfl) ?_
   refine r_r rfl rfl rfl (t_loadRef rfl rfl (.tail _ (.head _)) rfl rfl (by exact ty_int) rfl) ?_
   refine r_r rfl rfl rfl (m_lookup2 (key := (D.int .i64)) (g := (D.int .i64)) s_0 t_a1.i 0 rfl Try.underlying71 (keyInt Try.underlying3) zm_int rfl rfl (.tail _ (.tail _ (.head _)))) ?_
   refine r_d rfl rfl rfl (s_move rfl rfl) ?_
   refine r_d rfl rfl rfl (s_extract rfl rfl rfl) ?_
   refine r_d rfl rfl rfl (s_extract rfl rfl rfl) ?_
   refine r_d rfl rfl rfl (s_assign rfl rfl) ?_
   refine r_d rfl rfl rfl (s_assign rfl rfl) ?_
   refine r_end ?_
   refine g_seq ?_
   refine g_seq ?_
   refine g_run (by kernel_rfl) [(0, .d), (1, .d)] rfl ?_
   refine r_d rfl rfl rfl (s_move rfl rfl) ?_
   refine r_d rfl rfl rfl (s_not rfl rfl) ?_
   refine r_end ?_
   refine g_sB 19 rfl hr (fun h19_3 hr => ?_) (fun h19_3 hr => ?_)
   ·
    refine g_condT rfl ?_
    refine g_seq ?_
    refine g_run (by kernel_rfl) [(0, .d), (1, .r), (2, .d)] rfl ?_
    refine r_d rfl rfl rfl (s_move rfl rfl) ?_
    refine r_r rfl rfl rfl (m_lenMap (key := (D.int .i64)) (g := (D.int .i64)) s_0 rfl Try.underlying71 rfl (.tail _ (.tail _ (.head _)))) ?_
    refine r_d rfl rfl rfl (s_assign rfl rfl) ?_
    refine r_end ?_
    refine g_run (by kernel_rfl) [(0, .d), (1, .d), (2, .r), (3, .d), (4, .w)] rfl ?_
    refine r_d rfl rfl rfl (s_move rfl rfl) ?_
    refine r_d rfl rfl rfl (s_fieldRef rfl fl_api_Term_1 rfl) ?_
    refine r_r rfl rfl rfl (t_loadRef rfl rfl (.tail _ (.head _)) rfl rfl (by exact ty_int) rfl) ?_
    refine r_d rfl rfl rfl (s_move rfl rfl) ?_
    obtain ⟨mm_5, hmm_5, hr⟩ := bindS hr
    refine r_w01 rfl rfl rfl (m_mapUpdate (key := (D.int .i64)) (g := (D.int .i64)) s_0 t_a1.i (s_0.length : Int) rfl Try.underlying71 (keyInt Try.underlying3) rfl rfl rfl (Wk.refl _) (pf2 _ _ _ _) hmm_5) ?_
    refine r_end ?_
    refine g_run (by kernel_rfl) [(0, .d), (1, .d), (2, .w)] rfl ?_
    refine r_d rfl rfl rfl (s_move rfl rfl) ?_
    refine r_d rfl rfl rfl (s_fieldRef rfl fl_api_Term_1 rfl) ?_
    refine r_w01 rfl rfl rfl (t_store _ rfl rfl rfl (Wk.refl _) (pf2 _ _ _ _) rfl rfl (by exact ty_int) rfl rfl rfl) ?_
    refine r_end ?_
    refine g_inBlock ?_
    refine g_seq ?_
    refine g_run (by kernel_rfl) [(0, .r), (1, .w)] rfl ?_
    refine r_r rfl rfl rfl (t_loadRef rfl rfl (.head _) rfl rfl (by exact ty_api_Term) rfl) ?_
    refine r_w01 rfl rfl rfl (t_store0 _ rfl rfl rfl (Wk.refl _) (pf2 _ _ _ _) (by exact ty_api_Term) rfl rfl rfl) ?_
    refine r_end ?_
    refine g_freeze 4 b4_1 rfl (pf0 _) ?_
    refine g_perm [_] _ (pf1 _ _ _) ?_
    obtain rfl := Option.some.inj hr
    refine g_ret Try.func62 _ (.cons (resPtr rfl (by exact ty_api_Term) rfl (Wk.refl _)) .nil) ?_
    exact ⟨(by first | rfl | (show _ = D.agg (fsT _); rw [fsT_eq] <;> rfl)), rfl⟩
   ·
    refine g_condF rfl ?_
    refine g_skip ?_
    refine g_run (by kernel_rfl) [(0, .d), (1, .d), (2, .w)] rfl ?_
    refine r_d rfl rfl rfl (s_move rfl rfl) ?_
    refine r_d rfl rfl rfl (s_fieldRef rfl fl_api_Term_1 rfl) ?_
    refine r_w01 rfl rfl rfl (t_store _ rfl rfl rfl (Wk.refl _) (pf1 _ _ _) rfl rfl (by exact ty_int) rfl rfl rfl) ?_
    refine r_end ?_
    refine g_inBlock ?_
    refine g_seq ?_
    refine g_run (by kernel_rfl) [(0, .r), (1, .w)] rfl ?_
    refine r_r rfl rfl rfl (t_loadRef rfl rfl (.head _) rfl rfl (by exact ty_api_Term) rfl) ?_
    refine r_w01 rfl rfl rfl (t_store0 _ rfl rfl rfl (Wk.refl _) (pf1 _ _ _) (by exact ty_api_Term) rfl rfl rfl) ?_
    refine r_end ?_
    refine g_freeze 4 b4_1 rfl (pf0 _) ?_
    refine g_perm [_] _ (pf1 _ _ _) ?_
    obtain rfl := Option.some.inj hr
    refine g_ret Try.func62 _ (.cons (resPtr rfl (by exact ty_api_Term) rfl (Wk.refl _)) .nil) ?_
    exact ⟨(by first | rfl | (show _ = D.agg (fsT _); rw [fsT_eq] <;> rfl)), rfl⟩
  ·
   refine g_condF rfl ?_
   refine g_seq ?_
   refine g_run (by kernel_rfl) [(0, .d), (1, .d)] rfl ?_
   refine r_d rfl rfl rfl (s_cmp rfl rfl rfl rfl) ?_
   refine r_d rfl rfl rfl (s_assign rfl rfl) ?_
   refine r_end ?_
   refine g_sB 28 rfl hr (fun h28_5 hr => ?_) (fun h28_5 hr => ?_)
   ·
    refine g_condT rfl ?_
    refine g_run (by kernel_rfl) [(0, .d), (1, .r), (2, .d), (3, .d), (4, .w), (5, .d), (6, .w)] rfl ?_
    refine r_d rfl rfl rfl (s_fieldRef rfl fl_api_Term_3 rfl) ?_
    refine r_r rfl rfl rfl (t_loadRef rfl rfl (.tail _ (.head _)) rfl rfl (by exact ty_L_api_Term) rfl) ?_
    refine r_d rfl rfl rfl (s_move rfl rfl) ?_
    refine r_d rfl rfl rfl (s_makeFunc rfl rfl rfl) ?_
    obtain ⟨r_7, hr_7, hr⟩ := bindS hr
    refine r_w rfl rfl rfl (s_call _ rfl cl_source_mapped_api_Term (.cons rfl (Wk.refl _) (.cons rfl (Wk.refl _) .nil)) (by exact (pf2 _ _ _ _)) (IHR _ _ _ _ hr_7)) ?_
    rintro _ _ ⟨_, ⟨rfl, rfl⟩, rfl⟩
    refine r_st ((.map m_o0 (mapM' (D.int .i64) (D.int .i64) r_7.2)) :: _) rfl ?_
    refine r_d rfl rfl rfl (s_fieldRef rfl fl_api_Term_3 rfl) ?_
    refine r_w01 rfl rfl rfl (t_store _ rfl rfl rfl (Wk.refl _) (pf2 _ _ _ _) rfl rfl (by exact ty_L_api_Term) rfl rfl rfl) ?_
    refine r_end ?_
    refine g_inBlock ?_
    refine g_seq ?_
    refine g_run (by kernel_rfl) [(0, .r), (1, .w)] rfl ?_
    refine r_r rfl rfl rfl (t_loadRef rfl rfl (.head _) rfl rfl (by exact ty_api_Term) rfl) ?_
    refine r_w01 rfl rfl rfl (t_store0 _ rfl rfl rfl (Wk.refl _) (pf2 _ _ _ _) (by exact ty_api_Term) rfl rfl rfl) ?_
    refine r_end ?_
    refine g_freeze 4 b4_1 rfl (pf0 _) ?_
    refine g_perm [_] _ (pf1 _ _ _) ?_
    obtain rfl := Option.some.inj hr
    refine g_ret Try.func62 _ (.cons (resPtr rfl (by exact ty_api_Term) rfl (Wk.refl _)) .nil) ?_
    exact ⟨(by first | rfl | (show _ = D.agg (fsT _); rw [fsT_eq] <;> rfl)), rfl⟩
   ·
    refine g_condF rfl ?_
    refine g_skip ?_
    refine g_inBlock ?_
    refine g_seq ?_
    refine g_run (by kernel_rfl) [(0, .r), (1, .w)] rfl ?_
    refine r_r rfl rfl rfl (t_loadRef rfl rfl (.tail _ (.head _)) rfl rfl (by exact ty_api_Term) rfl) ?_
    refine r_w01 rfl rfl rfl (t_store0 _ rfl rfl rfl (Wk.refl _) (pf0 _) (by exact ty_api_Term) rfl rfl rfl) ?_
    refine r_end ?_
    refine g_freeze 4 b4_1 rfl (pf0 _) ?_
    refine g_perm [_] _ (pf1 _ _ _) ?_
    obtain rfl := Option.some.inj hr
    refine g_ret Try.func62 _ (.cons (resPtr rfl (by exact ty_api_Term) rfl (Wk.refl _)) .nil) ?_
    exact ⟨(by first | rfl | (show _ = D.agg (fsT _); rw [fsT_eq] <;> rfl)), rfl⟩

noncomputable def lf_source_mapped_s2_L0 (k : ((List T)) → ((List (Int × Int))) → Option ((List T) × (List (Int × Int)))) (rec : (List T) → (List (Int × Int)) → Option ((List T) × (List (Int × Int)))) : List T → (List T) → (List (Int × Int)) → Option ((List T) × (List (Int × Int)))
  | [], out_4, mm_6 =>
  (k out_4 mm_6)
  | q_10 :: rest, out_4, mm_6 =>
  ((lfo_source_numbering_term_s1 rec q_10 mm_6).bind fun r_12 =>
  ((appO 56 out_4 [r_12.1]).bind fun l_13 =>
  (lf_source_mapped_s2_L0 k rec rest l_13 r_12.2)))
noncomputable def lf_source_mapped_s2 : Nat → (List T) → (List (Int × Int)) → Option ((List T) × (List (Int × Int)))
  | 0, _, _ => none
  | fuel + 1, l_a0, s_0 =>
    (fun (rec : (List T) → (List (Int × Int)) → Option ((List T) × (List (Int × Int)))) =>
      (lf_source_mapped_s2_L0 (fun out_8 mm_9 =>
      some (out_8, mm_9)) rec l_a0 [] s_0)) (lf_source_mapped_s2 fuel)

set_option maxHeartbeats 1000000 in
theorem lgs_source_mapped_s2 (fuel : Nat) (rec : (List T) → (List (Int × Int)) → Option ((List T) × (List (Int × Int)))) (IHR : ∀ (l_a0 : (List T)) (s_0 : (List (Int × Int))) (m_o0 : Nat) (res : (List T) × (List (Int × Int))), rec l_a0 s_0 = some res → Spec Try.prog 61 [.lst (l_a0.map encT), .clo (.func 62) [.map m_o0] []] [.map m_o0 (mapM' (D.int .i64) (D.int .i64) s_0)] (fun d σ => d = .lst (res.1.map encT) ∧ σ = [.map m_o0 (mapM' (D.int .i64) (D.int .i64) res.2)])) (l_a0 : (List T)) (s_0 : (List (Int × Int))) (m_o0 : Nat) (res : (List T) × (List (Int × Int)))
    (hr : (lf_source_mapped_s2_L0 (fun out_8 mm_9 =>
some (out_8, mm_9)) rec l_a0 [] s_0) = some res) : Spec Try.prog 61 [.lst (l_a0.map encT), .clo (.func 62) [.map m_o0] []] [.map m_o0 (mapM' (D.int .i64) (D.int .i64) s_0)] (fun d σ => d = .lst (res.1.map encT) ∧ σ = [.map m_o0 (mapM' (D.int .i64) (D.int .i64) res.2)]) := by
  refine spec_env [(0, .lst (l_a0.map encT)), (1, .clo (.func 62) [.map m_o0] [])] Try.func61 rfl rfl fun K hK => ?_
  refine g_seq ?_
  refine g_run (by kernel_rfl) [(0, .w)] rfl ?_
  refine r_w rfl rfl rfl (s_nilOwn 36 4 (.inl rfl)) ?_
  rintro _ _ ⟨u4_0, rfl, rfl⟩
  refine r_end ?_
  refine g_seq ?_
  refine g_run (by kernel_rfl) [(0, .w)] rfl ?_
  refine r_w rfl rfl rfl (s_nilOwn 36 4 (.inl rfl)) ?_
  rintro _ _ ⟨u5_1, rfl, rfl⟩
  refine r_end ?_
  refine g_seq ?_
  refine g_seq ?_
  refine g_run (by kernel_rfl) [(0, .d), (1, .d), (2, .d)] rfl ?_
  refine r_d rfl rfl rfl (s_move rfl rfl) ?_
  refine r_d rfl rfl rfl (m_len (f := encT) l_a0 rfl el_L_api_Term rfl (asl rfl)) ?_
  refine r_d rfl rfl rfl (s_move rfl rfl) ?_
  refine r_end ?_
  obtain ⟨kk0, hkk0, hr⟩ := exK (fun k => lf_source_mapped_s2_L0 k rec l_a0 [] s_0) hr
  refine g_len 0 rfl (asl rfl) fun hla0 => ?_
  simp only [List.length_map] at hla0
  refine g_blockJ (fun env σ => ∃ (out_8 : (List T)) (mm_9 : (List (Int × Int))) (u_7 : Value), env = [(5, .own u_7 (out_8.map encT))] ∧ σ = [.row u_7 out_8.length 36 4, .map m_o0 (mapM' (D.int .i64) (D.int .i64) mm_9)] ∧ kk0 out_8 mm_9 = some res) ?_ (fun HK0 => ?_)
  ·
   rintro _ _ ⟨out_8, mm_9, u_7, rfl, rfl, hr⟩
   rw [hkk0] at hr
   refine g_seq ?_
   refine g_run (by kernel_rfl) [(0, .d), (1, .d)] rfl ?_
   refine r_d rfl rfl rfl (s_move rfl rfl) ?_
   refine r_d rfl rfl rfl (s_assign rfl rfl) ?_
   refine r_end ?_
   refine g_perm [_] _ (pf1 _ _ _) ?_
   obtain rfl := Option.some.inj hr
   refine g_ret Try.func61 _ (.cons (resTmp rfl (Wk.own _ _)) .nil) ?_
   exact ⟨rfl, rfl⟩
  ·
   refine g_sub [(1, .clo (.func 62) [.map m_o0] []), (8, .lst (l_a0.map encT)), (9, .int .i64 (l_a0.length : Int)), (5, .own u5_1 ([].map encT)), (10, .int .i64 ((0 : Nat) : Int))] (Sub.cons' rfl (Sub.cons' rfl (Sub.cons' rfl (Sub.cons' rfl (Sub.cons' rfl (Sub.nil _)))))) ?_
   refine g_perm [_, _] _ ((pf0 _).trans (pf2 _ _ _ _)) ?_
   refine g_loop (fun n env σ => ∃ (out_4 : (List T)) (i_5 : Nat) (mm_6 : (List (Int × Int))) (u_3 : Value), (n = l_a0.length - i_5) ∧ (env = [(1, .clo (.func 62) [.map m_o0] []), (8, .lst (l_a0.map encT)), (9, .int .i64 (l_a0.length : Int)), (5, .own u_3 (out_4.map encT)), (10, .int .i64 (i_5 : Int))]) ∧ (σ = [.map m_o0 (mapM' (D.int .i64) (D.int .i64) mm_6), .row u_3 out_4.length 36 4]) ∧ (i_5 ≤ l_a0.length) ∧ (lf_source_mapped_s2_L0 kk0 rec (l_a0.drop i_5) out_4 mm_6 = some res)) _ ⟨[], 0, s_0, u5_1, rfl, rfl, rfl, Nat.zero_le _, hr⟩ ?_
   rintro n _ _ ⟨out_4, i_5, mm_6, u_3, rfl, rfl, rfl, hi0, hr⟩ IH0
   rcases listStep l_a0 i_5 hi0 with ⟨ht0, hd0, he0⟩ | ⟨q_10, ht0, hd0, hq0, hlt0⟩
   ·
    rw [hd0, lf_source_mapped_s2_L0] at hr
    refine g_seq ?_
    refine g_run (by kernel_rfl) [(0, .d)] rfl ?_
    refine r_d rfl rfl rfl (s_cmp rfl rfl rfl rfl) ?_
    refine r_end ?_
    refine g_seq ?_
    refine g_known 11 false rfl ht0 ?_
    refine g_condF rfl ?_
    refine g_exit rfl ?_
    refine g_sub [(5, .own u_3 (out_4.map encT))] (Sub.cons' rfl (Sub.nil _)) ?_
    refine g_perm [_, _] _ ((pf0 _).trans (pf1 _ _ _)) ?_
    exact HK0 _ _ ⟨out_4, mm_6, u_3, rfl, rfl, hr⟩
   ·
    rw [hd0, lf_source_mapped_s2_L0] at hr
    refine g_seq ?_
    refine g_run (by kernel_rfl) [(0, .d)] rfl ?_
    refine r_d rfl rfl rfl (s_cmp rfl rfl rfl rfl) ?_
    refine r_end ?_
    refine g_seq ?_
    refine g_known 11 true rfl ht0 ?_
    refine g_condT rfl ?_
    refine g_skip ?_
    refine g_seq ?_
    refine g_block ?_
    refine g_seq ?_
    refine g_run (by kernel_rfl) [(0, .d), (1, .d), (2, .w), (3, .w)] rfl ?_
    refine r_d rfl rfl rfl (m_index (f := encT) l_a0 rfl el_L_api_Term rfl (asl rfl) rfl hq0 sz_encT rfl) ?_
    refine r_d rfl rfl rfl (s_load rfl rfl (by exact ty_api_Term) (sz_encT _)) ?_
    refine r_w rfl rfl rfl (s_alloc rfl zv_api_Term) ?_
    rintro _ _ ⟨b7_10, rfl, rfl⟩
    refine r_w01 rfl rfl rfl (t_store0 _ rfl rfl rfl (Wk.refl _) (pf0 _) (by exact ty_api_Term) (sz_encT _) rfl rfl) ?_
    refine r_end ?_
    refine g_freeze 7 b7_10 rfl (pf0 _) ?_
    refine g_run (by kernel_rfl) [(0, .d), (1, .d), (2, .d), (3, .w), (4, .d), (5, .w), (6, .d)] rfl ?_
    refine r_d rfl rfl rfl (s_move rfl rfl) ?_
    refine r_d rfl rfl rfl (s_move rfl rfl) ?_
    refine r_d rfl rfl rfl (s_load rfl rfl (by exact ty_api_Term) (sz_encT _)) ?_
    obtain ⟨r_12, hr_12, hr⟩ := bindS hr
    refine r_w rfl rfl rfl (s_callV _ rfl rfl cl_source_numbering_term (.cons rfl (Wk.refl _) .nil) rfl (by exact (pf0 _)) (lgo_source_numbering_term_s1 rec IHR _ _ _ _ hr_12)) ?_
    rintro _ _ ⟨_, ⟨rfl, rfl⟩, rfl⟩
    refine r_st ((.map m_o0 (mapM' (D.int .i64) (D.int .i64) r_12.2)) :: _) rfl ?_
    refine r_d rfl rfl rfl (m_lit (f := encT) [.tmp 17] [r_12.1] rfl el_L_api_Term rfl rfl (by decide) (by decide) (.cons rfl (Wk.refl _) .nil) sz_encT (fun _ => rfl)) ?_
    obtain ⟨l_13, hl_13, hr⟩ := bindS hr
    refine r_w rfl rfl rfl (m_appOwn (f := encT) out_4 [r_12.1] rfl el_L_api_Term rfl rfl (asl rfl) (pf1 _ _ _) rfl sz_encT hl_13) ?_
    rintro _ _ ⟨u19_13, rfl, rfl⟩
    refine r_d rfl rfl rfl (s_assign rfl rfl) ?_
    refine r_end ?_
    refine g_inBlock ?_
    refine g_run (by kernel_rfl) [(0, .d), (1, .d)] rfl ?_
    refine r_d rfl rfl rfl (s_ar (r := ((i_5 + 1 : Nat) : Int)) rfl rfl rfl (by simp [iar]) (by omega)) ?_
    refine r_d rfl rfl rfl (s_move rfl rfl) ?_
    refine r_end ?_
    refine g_sub [(1, .clo (.func 62) [.map m_o0] []), (8, .lst (l_a0.map encT)), (9, .int .i64 (l_a0.length : Int)), (5, .own u19_13 (l_13.map encT)), (10, .int .i64 ((i_5 + 1 : Nat) : Int))] (Sub.cons' rfl (Sub.cons' rfl (Sub.cons' rfl (Sub.cons' rfl (Sub.cons' rfl (Sub.nil _)))))) ?_
    refine g_perm [_, _] _ ((pf0 _).trans (pf1 _ _ _)) ?_
    exact IH0 _ _ _ (by omega) ⟨l_13, (i_5 + 1), r_12.2, u19_13, rfl, rfl, rfl, (by omega), hr⟩
theorem lg_source_mapped_s2 : ∀ (fuel : Nat) (l_a0 : (List T)) (s_0 : (List (Int × Int))) (m_o0 : Nat) (res : (List T) × (List (Int × Int))), lf_source_mapped_s2 fuel l_a0 s_0 = some res → Spec Try.prog 61 [.lst (l_a0.map encT), .clo (.func 62) [.map m_o0] []] [.map m_o0 (mapM' (D.int .i64) (D.int .i64) s_0)] (fun d σ => d = .lst (res.1.map encT) ∧ σ = [.map m_o0 (mapM' (D.int .i64) (D.int .i64) res.2)])
  | 0, _, _, _, _, h => by cases h
  | fuel + 1, l_a0, s_0, m_o0, res, h => lgs_source_mapped_s2 fuel (lf_source_mapped_s2 fuel) (lg_source_mapped_s2 fuel) l_a0 s_0 m_o0 res h

noncomputable def lf_source_numbering_atom_s1 (fuel : Nat) (a_a1 : At) (s_0 : (List (Int × Int))) : Option (At × (List (Int × Int))) :=
  ((lf_source_mapped_s2 fuel a_a1.ts s_0).bind fun r_3 =>
  some ((⟨a_a1.n, r_3.1⟩ : At), r_3.2))

set_option maxHeartbeats 1000000 in
theorem lg_source_numbering_atom_s1 (fuel : Nat) (a_a1 : At) (s_0 : (List (Int × Int))) (m_o0 : Nat) (res : At × (List (Int × Int))) (hr : lf_source_numbering_atom_s1 fuel a_a1 s_0 = some res) : Spec Try.prog 44 [.map m_o0, encA a_a1] [.map m_o0 (mapM' (D.int .i64) (D.int .i64) s_0)] (fun d σ => d = encA res.1 ∧ σ = [.map m_o0 (mapM' (D.int .i64) (D.int .i64) res.2)]) := by
  unfold lf_source_numbering_atom_s1 at hr
  refine spec_env [(0, .map m_o0), (1, encA a_a1)] Try.func44 rfl rfl fun K hK => ?_
  refine g_seq ?_
  refine g_run (by kernel_rfl) [(0, .w), (1, .w)] rfl ?_
  refine r_w rfl rfl rfl (s_boxRef rfl rfl rfl) ?_
  rintro _ _ ⟨b3_0, rfl, rfl⟩
  refine r_w rfl rfl rfl (s_alloc rfl zv_api_Atom) ?_
  rintro _ _ ⟨b4_1, rfl, rfl⟩
  refine r_end ?_
  refine g_seq ?_
  refine g_run (by kernel_rfl) [(0, .d), (1, .r), (2, .d), (3, .d), (4, .w), (5, .d), (6, .w)] rfl ?_
  refine r_d rfl rfl rfl (s_fieldRef rfl fl_api_Atom_1 rfl) ?_
  refine r_r rfl rfl rfl (t_loadRef rfl rfl (.tail _ (.head _)) rfl rfl (by exact ty_L_api_Term) rfl) ?_
  refine r_d rfl rfl rfl (s_move rfl rfl) ?_
  refine r_d rfl rfl rfl (s_makeFunc rfl rfl rfl) ?_
  obtain ⟨r_3, hr_3, hr⟩ := bindS hr
  refine r_w rfl rfl rfl (s_call _ rfl cl_source_mapped_api_Term (.cons rfl (Wk.refl _) (.cons rfl (Wk.refl _) .nil)) (by exact (pf2 _ _ _ _)) (lg_source_mapped_s2 fuel _ _ _ _ hr_3)) ?_
  rintro _ _ ⟨_, ⟨rfl, rfl⟩, rfl⟩
  refine r_st ((.map m_o0 (mapM' (D.int .i64) (D.int .i64) r_3.2)) :: _) rfl ?_
  refine r_d rfl rfl rfl (s_fieldRef rfl fl_api_Atom_1 rfl) ?_
  refine r_w01 rfl rfl rfl (t_store _ rfl rfl rfl (Wk.refl _) (pf2 _ _ _ _) rfl rfl (by exact ty_L_api_Term) rfl rfl rfl) ?_
  refine r_end ?_
  refine g_seq ?_
  refine g_run (by kernel_rfl) [(0, .r), (1, .w)] rfl ?_
  refine r_r rfl rfl rfl (t_loadRef rfl rfl (.head _) rfl rfl (by exact ty_api_Atom) rfl) ?_
  refine r_w01 rfl rfl rfl (t_store0 _ rfl rfl rfl (Wk.refl _) (pf2 _ _ _ _) (by exact ty_api_Atom) rfl rfl rfl) ?_
  refine r_end ?_
  refine g_freeze 4 b4_1 rfl (pf0 _) ?_
  refine g_perm [_] _ (pf1 _ _ _) ?_
  obtain rfl := Option.some.inj hr
  refine g_ret Try.func44 _ (.cons (resPtr rfl (by exact ty_api_Atom) rfl (Wk.refl _)) .nil) ?_
  exact ⟨rfl, rfl⟩

noncomputable def lf_source_mapped_s1_L0 (k : ((List At)) → ((List (Int × Int))) → Option ((List At) × (List (Int × Int)))) (fuel : Nat) : List At → (List At) → (List (Int × Int)) → Option ((List At) × (List (Int × Int)))
  | [], out_4, mm_6 =>
  (k out_4 mm_6)
  | q_10 :: rest, out_4, mm_6 =>
  ((lf_source_numbering_atom_s1 fuel q_10 mm_6).bind fun r_12 =>
  ((appO 40 out_4 [r_12.1]).bind fun l_13 =>
  (lf_source_mapped_s1_L0 k fuel rest l_13 r_12.2)))
noncomputable def lf_source_mapped_s1 (fuel : Nat) (l_a0 : (List At)) (s_0 : (List (Int × Int))) : Option ((List At) × (List (Int × Int))) :=
  (lf_source_mapped_s1_L0 (fun out_8 mm_9 =>
  some (out_8, mm_9)) fuel l_a0 [] s_0)

set_option maxHeartbeats 1000000 in
theorem lg_source_mapped_s1 (fuel : Nat) (l_a0 : (List At)) (s_0 : (List (Int × Int))) (m_o0 : Nat) (res : (List At) × (List (Int × Int))) (hr : lf_source_mapped_s1 fuel l_a0 s_0 = some res) : Spec Try.prog 43 [.lst (l_a0.map encA), .clo (.func 44) [.map m_o0] []] [.map m_o0 (mapM' (D.int .i64) (D.int .i64) s_0)] (fun d σ => d = .lst (res.1.map encA) ∧ σ = [.map m_o0 (mapM' (D.int .i64) (D.int .i64) res.2)]) := by
  unfold lf_source_mapped_s1 at hr
  refine spec_env [(0, .lst (l_a0.map encA)), (1, .clo (.func 44) [.map m_o0] [])] Try.func43 rfl rfl fun K hK => ?_
  refine g_seq ?_
  refine g_run (by kernel_rfl) [(0, .w)] rfl ?_
  refine r_w rfl rfl rfl (s_nilOwn 33 2 (.inl rfl)) ?_
  rintro _ _ ⟨u4_0, rfl, rfl⟩
  refine r_end ?_
  refine g_seq ?_
  refine g_run (by kernel_rfl) [(0, .w)] rfl ?_
  refine r_w rfl rfl rfl (s_nilOwn 33 2 (.inl rfl)) ?_
  rintro _ _ ⟨u5_1, rfl, rfl⟩
  refine r_end ?_
  refine g_seq ?_
  refine g_seq ?_
  refine g_run (by kernel_rfl) [(0, .d), (1, .d), (2, .d)] rfl ?_
  refine r_d rfl rfl rfl (s_move rfl rfl) ?_
  refine r_d rfl rfl rfl (m_len (f := encA) l_a0 rfl el_L_api_Atom rfl (asl rfl)) ?_
  refine r_d rfl rfl rfl (s_move rfl rfl) ?_
  refine r_end ?_
  obtain ⟨kk0, hkk0, hr⟩ := exK (fun k => lf_source_mapped_s1_L0 k fuel l_a0 [] s_0) hr
  refine g_len 0 rfl (asl rfl) fun hla0 => ?_
  simp only [List.length_map] at hla0
  refine g_blockJ (fun env σ => ∃ (out_8 : (List At)) (mm_9 : (List (Int × Int))) (u_7 : Value), env = [(5, .own u_7 (out_8.map encA))] ∧ σ = [.row u_7 out_8.length 33 2, .map m_o0 (mapM' (D.int .i64) (D.int .i64) mm_9)] ∧ kk0 out_8 mm_9 = some res) ?_ (fun HK0 => ?_)
  ·
   rintro _ _ ⟨out_8, mm_9, u_7, rfl, rfl, hr⟩
   rw [hkk0] at hr
   refine g_seq ?_
   refine g_run (by kernel_rfl) [(0, .d), (1, .d)] rfl ?_
   refine r_d rfl rfl rfl (s_move rfl rfl) ?_
   refine r_d rfl rfl rfl (s_assign rfl rfl) ?_
   refine r_end ?_
   refine g_perm [_] _ (pf1 _ _ _) ?_
   obtain rfl := Option.some.inj hr
   refine g_ret Try.func43 _ (.cons (resTmp rfl (Wk.own _ _)) .nil) ?_
   exact ⟨rfl, rfl⟩
  ·
   refine g_sub [(1, .clo (.func 44) [.map m_o0] []), (8, .lst (l_a0.map encA)), (9, .int .i64 (l_a0.length : Int)), (5, .own u5_1 ([].map encA)), (10, .int .i64 ((0 : Nat) : Int))] (Sub.cons' rfl (Sub.cons' rfl (Sub.cons' rfl (Sub.cons' rfl (Sub.cons' rfl (Sub.nil _)))))) ?_
   refine g_perm [_, _] _ ((pf0 _).trans (pf2 _ _ _ _)) ?_
   refine g_loop (fun n env σ => ∃ (out_4 : (List At)) (i_5 : Nat) (mm_6 : (List (Int × Int))) (u_3 : Value), (n = l_a0.length - i_5) ∧ (env = [(1, .clo (.func 44) [.map m_o0] []), (8, .lst (l_a0.map encA)), (9, .int .i64 (l_a0.length : Int)), (5, .own u_3 (out_4.map encA)), (10, .int .i64 (i_5 : Int))]) ∧ (σ = [.map m_o0 (mapM' (D.int .i64) (D.int .i64) mm_6), .row u_3 out_4.length 33 2]) ∧ (i_5 ≤ l_a0.length) ∧ (lf_source_mapped_s1_L0 kk0 fuel (l_a0.drop i_5) out_4 mm_6 = some res)) _ ⟨[], 0, s_0, u5_1, rfl, rfl, rfl, Nat.zero_le _, hr⟩ ?_
   rintro n _ _ ⟨out_4, i_5, mm_6, u_3, rfl, rfl, rfl, hi0, hr⟩ IH0
   rcases listStep l_a0 i_5 hi0 with ⟨ht0, hd0, he0⟩ | ⟨q_10, ht0, hd0, hq0, hlt0⟩
   ·
    rw [hd0, lf_source_mapped_s1_L0] at hr
    refine g_seq ?_
    refine g_run (by kernel_rfl) [(0, .d)] rfl ?_
    refine r_d rfl rfl rfl (s_cmp rfl rfl rfl rfl) ?_
    refine r_end ?_
    refine g_seq ?_
    refine g_known 11 false rfl ht0 ?_
    refine g_condF rfl ?_
    refine g_exit rfl ?_
    refine g_sub [(5, .own u_3 (out_4.map encA))] (Sub.cons' rfl (Sub.nil _)) ?_
    refine g_perm [_, _] _ ((pf0 _).trans (pf1 _ _ _)) ?_
    exact HK0 _ _ ⟨out_4, mm_6, u_3, rfl, rfl, hr⟩
   ·
    rw [hd0, lf_source_mapped_s1_L0] at hr
    refine g_seq ?_
    refine g_run (by kernel_rfl) [(0, .d)] rfl ?_
    refine r_d rfl rfl rfl (s_cmp rfl rfl rfl rfl) ?_
    refine r_end ?_
    refine g_seq ?_
    refine g_known 11 true rfl ht0 ?_
    refine g_condT rfl ?_
    refine g_skip ?_
    refine g_seq ?_
    refine g_block ?_
    refine g_seq ?_
    refine g_run (by kernel_rfl) [(0, .d), (1, .d), (2, .w), (3, .w)] rfl ?_
    refine r_d rfl rfl rfl (m_index (f := encA) l_a0 rfl el_L_api_Atom rfl (asl rfl) rfl hq0 sz_encA rfl) ?_
    refine r_d rfl rfl rfl (s_load rfl rfl (by exact ty_api_Atom) (sz_encA _)) ?_
    refine r_w rfl rfl rfl (s_alloc rfl zv_api_Atom) ?_
    rintro _ _ ⟨b7_10, rfl, rfl⟩
    refine r_w01 rfl rfl rfl (t_store0 _ rfl rfl rfl (Wk.refl _) (pf0 _) (by exact ty_api_Atom) (sz_encA _) rfl rfl) ?_
    refine r_end ?_
    refine g_freeze 7 b7_10 rfl (pf0 _) ?_
    refine g_run (by kernel_rfl) [(0, .d), (1, .d), (2, .d), (3, .w), (4, .d), (5, .w), (6, .d)] rfl ?_
    refine r_d rfl rfl rfl (s_move rfl rfl) ?_
    refine r_d rfl rfl rfl (s_move rfl rfl) ?_
    refine r_d rfl rfl rfl (s_load rfl rfl (by exact ty_api_Atom) (sz_encA _)) ?_
    obtain ⟨r_12, hr_12, hr⟩ := bindS hr
    refine r_w rfl rfl rfl (s_callV _ rfl rfl cl_source_numbering_atom (.cons rfl (Wk.refl _) .nil) rfl (by exact (pf0 _)) (lg_source_numbering_atom_s1 fuel _ _ _ _ hr_12)) ?_
    rintro _ _ ⟨_, ⟨rfl, rfl⟩, rfl⟩
    refine r_st ((.map m_o0 (mapM' (D.int .i64) (D.int .i64) r_12.2)) :: _) rfl ?_
    refine r_d rfl rfl rfl (m_lit (f := encA) [.tmp 17] [r_12.1] rfl el_L_api_Atom rfl rfl (by decide) (by decide) (.cons rfl (Wk.refl _) .nil) sz_encA (fun _ => rfl)) ?_
    obtain ⟨l_13, hl_13, hr⟩ := bindS hr
    refine r_w rfl rfl rfl (m_appOwn (f := encA) out_4 [r_12.1] rfl el_L_api_Atom rfl rfl (asl rfl) (pf1 _ _ _) rfl sz_encA hl_13) ?_
    rintro _ _ ⟨u19_13, rfl, rfl⟩
    refine r_d rfl rfl rfl (s_assign rfl rfl) ?_
    refine r_end ?_
    refine g_inBlock ?_
    refine g_run (by kernel_rfl) [(0, .d), (1, .d)] rfl ?_
    refine r_d rfl rfl rfl (s_ar (r := ((i_5 + 1 : Nat) : Int)) rfl rfl rfl (by simp [iar]) (by omega)) ?_
    refine r_d rfl rfl rfl (s_move rfl rfl) ?_
    refine r_end ?_
    refine g_sub [(1, .clo (.func 44) [.map m_o0] []), (8, .lst (l_a0.map encA)), (9, .int .i64 (l_a0.length : Int)), (5, .own u19_13 (l_13.map encA)), (10, .int .i64 ((i_5 + 1 : Nat) : Int))] (Sub.cons' rfl (Sub.cons' rfl (Sub.cons' rfl (Sub.cons' rfl (Sub.cons' rfl (Sub.nil _)))))) ?_
    refine g_perm [_, _] _ ((pf0 _).trans (pf1 _ _ _)) ?_
    exact IH0 _ _ _ (by omega) ⟨l_13, (i_5 + 1), r_12.2, u19_13, rfl, rfl, rfl, (by omega), hr⟩

noncomputable def lf_source_numbering_goal_s1 (fuel : Nat) (g_a1 : Gl) (s_0 : (List (Int × Int))) : Option (Gl × (List (Int × Int))) :=
  ((lf_source_mapped_s2 fuel g_a1.ts s_0).bind fun r_3 =>
  some ((⟨g_a1.op, g_a1.n, r_3.1⟩ : Gl), r_3.2))

set_option maxHeartbeats 1000000 in
theorem lg_source_numbering_goal_s1 (fuel : Nat) (g_a1 : Gl) (s_0 : (List (Int × Int))) (m_o0 : Nat) (res : Gl × (List (Int × Int))) (hr : lf_source_numbering_goal_s1 fuel g_a1 s_0 = some res) : Spec Try.prog 46 [.map m_o0, encG g_a1] [.map m_o0 (mapM' (D.int .i64) (D.int .i64) s_0)] (fun d σ => d = encG res.1 ∧ σ = [.map m_o0 (mapM' (D.int .i64) (D.int .i64) res.2)]) := by
  unfold lf_source_numbering_goal_s1 at hr
  refine spec_env [(0, .map m_o0), (1, encG g_a1)] Try.func46 rfl rfl fun K hK => ?_
  refine g_seq ?_
  refine g_run (by kernel_rfl) [(0, .w), (1, .w)] rfl ?_
  refine r_w rfl rfl rfl (s_boxRef rfl rfl rfl) ?_
  rintro _ _ ⟨b3_0, rfl, rfl⟩
  refine r_w rfl rfl rfl (s_alloc rfl zv_api_Goal) ?_
  rintro _ _ ⟨b4_1, rfl, rfl⟩
  refine r_end ?_
  refine g_seq ?_
  refine g_run (by kernel_rfl) [(0, .d), (1, .r), (2, .d), (3, .d), (4, .w), (5, .d), (6, .w)] rfl ?_
  refine r_d rfl rfl rfl (s_fieldRef rfl fl_api_Goal_2 rfl) ?_
  refine r_r rfl rfl rfl (t_loadRef rfl rfl (.tail _ (.head _)) rfl rfl (by exact ty_L_api_Term) rfl) ?_
  refine r_d rfl rfl rfl (s_move rfl rfl) ?_
  refine r_d rfl rfl rfl (s_makeFunc rfl rfl rfl) ?_
  obtain ⟨r_3, hr_3, hr⟩ := bindS hr
  refine r_w rfl rfl rfl (s_call _ rfl cl_source_mapped_api_Term (.cons rfl (Wk.refl _) (.cons rfl (Wk.refl _) .nil)) (by exact (pf2 _ _ _ _)) (lg_source_mapped_s2 fuel _ _ _ _ hr_3)) ?_
  rintro _ _ ⟨_, ⟨rfl, rfl⟩, rfl⟩
  refine r_st ((.map m_o0 (mapM' (D.int .i64) (D.int .i64) r_3.2)) :: _) rfl ?_
  refine r_d rfl rfl rfl (s_fieldRef rfl fl_api_Goal_2 rfl) ?_
  refine r_w01 rfl rfl rfl (t_store _ rfl rfl rfl (Wk.refl _) (pf2 _ _ _ _) rfl rfl (by exact ty_L_api_Term) rfl rfl rfl) ?_
  refine r_end ?_
  refine g_seq ?_
  refine g_run (by kernel_rfl) [(0, .r), (1, .w)] rfl ?_
  refine r_r rfl rfl rfl (t_loadRef rfl rfl (.head _) rfl rfl (by exact ty_api_Goal) rfl) ?_
  refine r_w01 rfl rfl rfl (t_store0 _ rfl rfl rfl (Wk.refl _) (pf2 _ _ _ _) (by exact ty_api_Goal) rfl rfl rfl) ?_
  refine r_end ?_
  refine g_freeze 4 b4_1 rfl (pf0 _) ?_
  refine g_perm [_] _ (pf1 _ _ _) ?_
  obtain rfl := Option.some.inj hr
  refine g_ret Try.func46 _ (.cons (resPtr rfl (by exact ty_api_Goal) rfl (Wk.refl _)) .nil) ?_
  exact ⟨rfl, rfl⟩

noncomputable def lf_source_mapped_s3_L0 (k : ((List Gl)) → ((List (Int × Int))) → Option ((List Gl) × (List (Int × Int)))) (fuel : Nat) : List Gl → (List Gl) → (List (Int × Int)) → Option ((List Gl) × (List (Int × Int)))
  | [], out_4, mm_6 =>
  (k out_4 mm_6)
  | q_10 :: rest, out_4, mm_6 =>
  ((lf_source_numbering_goal_s1 fuel q_10 mm_6).bind fun r_12 =>
  ((appO 48 out_4 [r_12.1]).bind fun l_13 =>
  (lf_source_mapped_s3_L0 k fuel rest l_13 r_12.2)))
noncomputable def lf_source_mapped_s3 (fuel : Nat) (l_a0 : (List Gl)) (s_0 : (List (Int × Int))) : Option ((List Gl) × (List (Int × Int))) :=
  (lf_source_mapped_s3_L0 (fun out_8 mm_9 =>
  some (out_8, mm_9)) fuel l_a0 [] s_0)

set_option maxHeartbeats 1000000 in
theorem lg_source_mapped_s3 (fuel : Nat) (l_a0 : (List Gl)) (s_0 : (List (Int × Int))) (m_o0 : Nat) (res : (List Gl) × (List (Int × Int))) (hr : lf_source_mapped_s3 fuel l_a0 s_0 = some res) : Spec Try.prog 45 [.lst (l_a0.map encG), .clo (.func 46) [.map m_o0] []] [.map m_o0 (mapM' (D.int .i64) (D.int .i64) s_0)] (fun d σ => d = .lst (res.1.map encG) ∧ σ = [.map m_o0 (mapM' (D.int .i64) (D.int .i64) res.2)]) := by
  unfold lf_source_mapped_s3 at hr
  refine spec_env [(0, .lst (l_a0.map encG)), (1, .clo (.func 46) [.map m_o0] [])] Try.func45 rfl rfl fun K hK => ?_
  refine g_seq ?_
  refine g_run (by kernel_rfl) [(0, .w)] rfl ?_
  refine r_w rfl rfl rfl (s_nilOwn 45 3 (.inl rfl)) ?_
  rintro _ _ ⟨u4_0, rfl, rfl⟩
  refine r_end ?_
  refine g_seq ?_
  refine g_run (by kernel_rfl) [(0, .w)] rfl ?_
  refine r_w rfl rfl rfl (s_nilOwn 45 3 (.inl rfl)) ?_
  rintro _ _ ⟨u5_1, rfl, rfl⟩
  refine r_end ?_
  refine g_seq ?_
  refine g_seq ?_
  refine g_run (by kernel_rfl) [(0, .d), (1, .d), (2, .d)] rfl ?_
  refine r_d rfl rfl rfl (s_move rfl rfl) ?_
  refine r_d rfl rfl rfl (m_len (f := encG) l_a0 rfl el_L_api_Goal rfl (asl rfl)) ?_
  refine r_d rfl rfl rfl (s_move rfl rfl) ?_
  refine r_end ?_
  obtain ⟨kk0, hkk0, hr⟩ := exK (fun k => lf_source_mapped_s3_L0 k fuel l_a0 [] s_0) hr
  refine g_len 0 rfl (asl rfl) fun hla0 => ?_
  simp only [List.length_map] at hla0
  refine g_blockJ (fun env σ => ∃ (out_8 : (List Gl)) (mm_9 : (List (Int × Int))) (u_7 : Value), env = [(5, .own u_7 (out_8.map encG))] ∧ σ = [.row u_7 out_8.length 45 3, .map m_o0 (mapM' (D.int .i64) (D.int .i64) mm_9)] ∧ kk0 out_8 mm_9 = some res) ?_ (fun HK0 => ?_)
  ·
   rintro _ _ ⟨out_8, mm_9, u_7, rfl, rfl, hr⟩
   rw [hkk0] at hr
   refine g_seq ?_
   refine g_run (by kernel_rfl) [(0, .d), (1, .d)] rfl ?_
   refine r_d rfl rfl rfl (s_move rfl rfl) ?_
   refine r_d rfl rfl rfl (s_assign rfl rfl) ?_
   refine r_end ?_
   refine g_perm [_] _ (pf1 _ _ _) ?_
   obtain rfl := Option.some.inj hr
   refine g_ret Try.func45 _ (.cons (resTmp rfl (Wk.own _ _)) .nil) ?_
   exact ⟨rfl, rfl⟩
  ·
   refine g_sub [(1, .clo (.func 46) [.map m_o0] []), (8, .lst (l_a0.map encG)), (9, .int .i64 (l_a0.length : Int)), (5, .own u5_1 ([].map encG)), (10, .int .i64 ((0 : Nat) : Int))] (Sub.cons' rfl (Sub.cons' rfl (Sub.cons' rfl (Sub.cons' rfl (Sub.cons' rfl (Sub.nil _)))))) ?_
   refine g_perm [_, _] _ ((pf0 _).trans (pf2 _ _ _ _)) ?_
   refine g_loop (fun n env σ => ∃ (out_4 : (List Gl)) (i_5 : Nat) (mm_6 : (List (Int × Int))) (u_3 : Value), (n = l_a0.length - i_5) ∧ (env = [(1, .clo (.func 46) [.map m_o0] []), (8, .lst (l_a0.map encG)), (9, .int .i64 (l_a0.length : Int)), (5, .own u_3 (out_4.map encG)), (10, .int .i64 (i_5 : Int))]) ∧ (σ = [.map m_o0 (mapM' (D.int .i64) (D.int .i64) mm_6), .row u_3 out_4.length 45 3]) ∧ (i_5 ≤ l_a0.length) ∧ (lf_source_mapped_s3_L0 kk0 fuel (l_a0.drop i_5) out_4 mm_6 = some res)) _ ⟨[], 0, s_0, u5_1, rfl, rfl, rfl, Nat.zero_le _, hr⟩ ?_
   rintro n _ _ ⟨out_4, i_5, mm_6, u_3, rfl, rfl, rfl, hi0, hr⟩ IH0
   rcases listStep l_a0 i_5 hi0 with ⟨ht0, hd0, he0⟩ | ⟨q_10, ht0, hd0, hq0, hlt0⟩
   ·
    rw [hd0, lf_source_mapped_s3_L0] at hr
    refine g_seq ?_
    refine g_run (by kernel_rfl) [(0, .d)] rfl ?_
    refine r_d rfl rfl rfl (s_cmp rfl rfl rfl rfl) ?_
    refine r_end ?_
    refine g_seq ?_
    refine g_known 11 false rfl ht0 ?_
    refine g_condF rfl ?_
    refine g_exit rfl ?_
    refine g_sub [(5, .own u_3 (out_4.map encG))] (Sub.cons' rfl (Sub.nil _)) ?_
    refine g_perm [_, _] _ ((pf0 _).trans (pf1 _ _ _)) ?_
    exact HK0 _ _ ⟨out_4, mm_6, u_3, rfl, rfl, hr⟩
   ·
    rw [hd0, lf_source_mapped_s3_L0] at hr
    refine g_seq ?_
    refine g_run (by kernel_rfl) [(0, .d)] rfl ?_
    refine r_d rfl rfl rfl (s_cmp rfl rfl rfl rfl) ?_
    refine r_end ?_
    refine g_seq ?_
    refine g_known 11 true rfl ht0 ?_
    refine g_condT rfl ?_
    refine g_skip ?_
    refine g_seq ?_
    refine g_block ?_
    refine g_seq ?_
    refine g_run (by kernel_rfl) [(0, .d), (1, .d), (2, .w), (3, .w)] rfl ?_
    refine r_d rfl rfl rfl (m_index (f := encG) l_a0 rfl el_L_api_Goal rfl (asl rfl) rfl hq0 sz_encG rfl) ?_
    refine r_d rfl rfl rfl (s_load rfl rfl (by exact ty_api_Goal) (sz_encG _)) ?_
    refine r_w rfl rfl rfl (s_alloc rfl zv_api_Goal) ?_
    rintro _ _ ⟨b7_10, rfl, rfl⟩
    refine r_w01 rfl rfl rfl (t_store0 _ rfl rfl rfl (Wk.refl _) (pf0 _) (by exact ty_api_Goal) (sz_encG _) rfl rfl) ?_
    refine r_end ?_
    refine g_freeze 7 b7_10 rfl (pf0 _) ?_
    refine g_run (by kernel_rfl) [(0, .d), (1, .d), (2, .d), (3, .w), (4, .d), (5, .w), (6, .d)] rfl ?_
    refine r_d rfl rfl rfl (s_move rfl rfl) ?_
    refine r_d rfl rfl rfl (s_move rfl rfl) ?_
    refine r_d rfl rfl rfl (s_load rfl rfl (by exact ty_api_Goal) (sz_encG _)) ?_
    obtain ⟨r_12, hr_12, hr⟩ := bindS hr
    refine r_w rfl rfl rfl (s_callV _ rfl rfl cl_source_numbering_goal (.cons rfl (Wk.refl _) .nil) rfl (by exact (pf0 _)) (lg_source_numbering_goal_s1 fuel _ _ _ _ hr_12)) ?_
    rintro _ _ ⟨_, ⟨rfl, rfl⟩, rfl⟩
    refine r_st ((.map m_o0 (mapM' (D.int .i64) (D.int .i64) r_12.2)) :: _) rfl ?_
    refine r_d rfl rfl rfl (m_lit (f := encG) [.tmp 17] [r_12.1] rfl el_L_api_Goal rfl rfl (by decide) (by decide) (.cons rfl (Wk.refl _) .nil) sz_encG (fun _ => rfl)) ?_
    obtain ⟨l_13, hl_13, hr⟩ := bindS hr
    refine r_w rfl rfl rfl (m_appOwn (f := encG) out_4 [r_12.1] rfl el_L_api_Goal rfl rfl (asl rfl) (pf1 _ _ _) rfl sz_encG hl_13) ?_
    rintro _ _ ⟨u19_13, rfl, rfl⟩
    refine r_d rfl rfl rfl (s_assign rfl rfl) ?_
    refine r_end ?_
    refine g_inBlock ?_
    refine g_run (by kernel_rfl) [(0, .d), (1, .d)] rfl ?_
    refine r_d rfl rfl rfl (s_ar (r := ((i_5 + 1 : Nat) : Int)) rfl rfl rfl (by simp [iar]) (by omega)) ?_
    refine r_d rfl rfl rfl (s_move rfl rfl) ?_
    refine r_end ?_
    refine g_sub [(1, .clo (.func 46) [.map m_o0] []), (8, .lst (l_a0.map encG)), (9, .int .i64 (l_a0.length : Int)), (5, .own u19_13 (l_13.map encG)), (10, .int .i64 ((i_5 + 1 : Nat) : Int))] (Sub.cons' rfl (Sub.cons' rfl (Sub.cons' rfl (Sub.cons' rfl (Sub.cons' rfl (Sub.nil _)))))) ?_
    refine g_perm [_, _] _ ((pf0 _).trans (pf1 _ _ _)) ?_
    exact IH0 _ _ _ (by omega) ⟨l_13, (i_5 + 1), r_12.2, u19_13, rfl, rfl, rfl, (by omega), hr⟩

noncomputable def lf_source_Number (fuel : Nat) (r_a0 : S_api_Rule) : Option (S_api_Rule) :=
  ((lf_source_mapped_s1 fuel r_a0.f1_Keep []).bind fun r_4 =>
  ((lf_source_mapped_s1 fuel r_a0.f2_Remove r_4.2).bind fun r_5 =>
  ((lf_source_mapped_s3 fuel r_a0.f3_Guard r_5.2).bind fun r_6 =>
  ((lf_source_mapped_s3 fuel r_a0.f4_Body r_6.2).bind fun r_7 =>
  some ((⟨r_a0.f0_Name, r_4.1, r_5.1, r_6.1, r_7.1, (r_7.2.length : Int)⟩ : S_api_Rule))))))

set_option maxHeartbeats 1000000 in
theorem lg_source_Number (fuel : Nat) (r_a0 : S_api_Rule) (res : S_api_Rule) (hr : lf_source_Number fuel r_a0 = some res) : Gives Try.prog 26 [enc_S_api_Rule r_a0] (enc_S_api_Rule res) := by
  unfold lf_source_Number at hr
  refine spec_env [(0, enc_S_api_Rule r_a0)] Try.func26 rfl rfl fun K hK => ?_
  refine g_seq ?_
  refine g_run (by kernel_rfl) [(0, .w), (1, .w)] rfl ?_
  refine r_w rfl rfl rfl (s_boxRef rfl rfl rfl) ?_
  rintro _ _ ⟨b1_0, rfl, rfl⟩
  refine r_w rfl rfl rfl (s_alloc rfl zv_api_Rule) ?_
  rintro _ _ ⟨b2_1, rfl, rfl⟩
  refine r_end ?_
  refine g_seq ?_
  refine g_run (by kernel_rfl) [(0, .w), (1, .d)] rfl ?_
  refine r_w rfl rfl rfl (m_makeMap (α := Int) (β := Int) (key := (D.int .i64)) (g := (D.int .i64)) rfl) ?_
  rintro _ _ ⟨m4_2, rfl, rfl⟩
  refine r_d rfl rfl rfl (s_assign rfl rfl) ?_
  refine r_end ?_
  refine g_seq ?_
  refine g_run (by kernel_rfl) [(0, .d), (1, .r), (2, .d), (3, .d), (4, .w), (5, .d), (6, .w)] rfl ?_
  refine r_d rfl rfl rfl (s_fieldRef rfl fl_api_Rule_1 rfl) ?_
  refine r_r rfl rfl rfl (t_loadRef rfl rfl (.tail _ (.tail _ (.head _))) rfl rfl (by exact ty_L_api_Atom) rfl) ?_
  refine r_d rfl rfl rfl (s_move rfl rfl) ?_
  refine r_d rfl rfl rfl (s_makeFunc rfl rfl rfl) ?_
  obtain ⟨r_4, hr_4, hr⟩ := bindS hr
  refine r_w rfl rfl rfl (s_call _ rfl cl_source_mapped_api_Atom (.cons rfl (Wk.refl _) (.cons rfl (Wk.refl _) .nil)) (by exact (pf0 _)) (lg_source_mapped_s1 fuel _ _ _ _ hr_4)) ?_
  rintro _ _ ⟨_, ⟨rfl, rfl⟩, rfl⟩
  refine r_st ((.map m4_2 (mapM' (D.int .i64) (D.int .i64) r_4.2)) :: _) rfl ?_
  refine r_d rfl rfl rfl (s_fieldRef rfl fl_api_Rule_1 rfl) ?_
  refine r_w01 rfl rfl rfl (t_store _ rfl rfl rfl (Wk.refl _) (pf2 _ _ _ _) rfl rfl (by exact ty_L_api_Atom) rfl rfl rfl) ?_
  refine r_end ?_
  refine g_seq ?_
  refine g_run (by kernel_rfl) [(0, .d), (1, .r), (2, .d), (3, .d), (4, .w), (5, .d), (6, .w)] rfl ?_
  refine r_d rfl rfl rfl (s_fieldRef rfl fl_api_Rule_2 rfl) ?_
  refine r_r rfl rfl rfl (t_loadRef rfl rfl (.head _) rfl rfl (by exact ty_L_api_Atom) rfl) ?_
  refine r_d rfl rfl rfl (s_move rfl rfl) ?_
  refine r_d rfl rfl rfl (s_makeFunc rfl rfl rfl) ?_
  obtain ⟨r_5, hr_5, hr⟩ := bindS hr
  refine r_w rfl rfl rfl (s_call _ rfl cl_source_mapped_api_Atom (.cons rfl (Wk.refl _) (.cons rfl (Wk.refl _) .nil)) (by exact (pf1 _ _ _)) (lg_source_mapped_s1 fuel _ _ _ _ hr_5)) ?_
  rintro _ _ ⟨_, ⟨rfl, rfl⟩, rfl⟩
  refine r_st ((.map m4_2 (mapM' (D.int .i64) (D.int .i64) r_5.2)) :: _) rfl ?_
  refine r_d rfl rfl rfl (s_fieldRef rfl fl_api_Rule_2 rfl) ?_
  refine r_w01 rfl rfl rfl (t_store _ rfl rfl rfl (Wk.refl _) (pf1 _ _ _) rfl rfl (by exact ty_L_api_Atom) rfl rfl rfl) ?_
  refine r_end ?_
  refine g_seq ?_
  refine g_run (by kernel_rfl) [(0, .d), (1, .r), (2, .d), (3, .d), (4, .w), (5, .d), (6, .w)] rfl ?_
  refine r_d rfl rfl rfl (s_fieldRef rfl fl_api_Rule_3 rfl) ?_
  refine r_r rfl rfl rfl (t_loadRef rfl rfl (.head _) rfl rfl (by exact ty_L_api_Goal) rfl) ?_
  refine r_d rfl rfl rfl (s_move rfl rfl) ?_
  refine r_d rfl rfl rfl (s_makeFunc rfl rfl rfl) ?_
  obtain ⟨r_6, hr_6, hr⟩ := bindS hr
  refine r_w rfl rfl rfl (s_call _ rfl cl_source_mapped_api_Goal (.cons rfl (Wk.refl _) (.cons rfl (Wk.refl _) .nil)) (by exact (pf1 _ _ _)) (lg_source_mapped_s3 fuel _ _ _ _ hr_6)) ?_
  rintro _ _ ⟨_, ⟨rfl, rfl⟩, rfl⟩
  refine r_st ((.map m4_2 (mapM' (D.int .i64) (D.int .i64) r_6.2)) :: _) rfl ?_
  refine r_d rfl rfl rfl (s_fieldRef rfl fl_api_Rule_3 rfl) ?_
  refine r_w01 rfl rfl rfl (t_store _ rfl rfl rfl (Wk.refl _) (pf1 _ _ _) rfl rfl (by exact ty_L_api_Goal) rfl rfl rfl) ?_
  refine r_end ?_
  refine g_seq ?_
  refine g_run (by kernel_rfl) [(0, .d), (1, .r), (2, .d), (3, .d), (4, .w), (5, .d), (6, .w)] rfl ?_
  refine r_d rfl rfl rfl (s_fieldRef rfl fl_api_Rule_4 rfl) ?_
  refine r_r rfl rfl rfl (t_loadRef rfl rfl (.head _) rfl rfl (by exact ty_L_api_Goal) rfl) ?_
  refine r_d rfl rfl rfl (s_move rfl rfl) ?_
  refine r_d rfl rfl rfl (s_makeFunc rfl rfl rfl) ?_
  obtain ⟨r_7, hr_7, hr⟩ := bindS hr
  refine r_w rfl rfl rfl (s_call _ rfl cl_source_mapped_api_Goal (.cons rfl (Wk.refl _) (.cons rfl (Wk.refl _) .nil)) (by exact (pf1 _ _ _)) (lg_source_mapped_s3 fuel _ _ _ _ hr_7)) ?_
  rintro _ _ ⟨_, ⟨rfl, rfl⟩, rfl⟩
  refine r_st ((.map m4_2 (mapM' (D.int .i64) (D.int .i64) r_7.2)) :: _) rfl ?_
  refine r_d rfl rfl rfl (s_fieldRef rfl fl_api_Rule_4 rfl) ?_
  refine r_w01 rfl rfl rfl (t_store _ rfl rfl rfl (Wk.refl _) (pf1 _ _ _) rfl rfl (by exact ty_L_api_Goal) rfl rfl rfl) ?_
  refine r_end ?_
  refine g_seq ?_
  refine g_run (by kernel_rfl) [(0, .d), (1, .r), (2, .d), (3, .w)] rfl ?_
  refine r_d rfl rfl rfl (s_move rfl rfl) ?_
  refine r_r rfl rfl rfl (m_lenMap (key := (D.int .i64)) (g := (D.int .i64)) r_7.2 rfl Try.underlying71 rfl (.tail _ (.head _))) ?_
  refine r_d rfl rfl rfl (s_fieldRef rfl fl_api_Rule_5 rfl) ?_
  refine r_w01 rfl rfl rfl (t_store _ rfl rfl rfl (Wk.refl _) (pf0 _) rfl rfl (by exact ty_int) rfl rfl rfl) ?_
  refine r_end ?_
  refine g_seq ?_
  refine g_run (by kernel_rfl) [(0, .r), (1, .w)] rfl ?_
  refine r_r rfl rfl rfl (t_loadRef rfl rfl (.head _) rfl rfl (by exact ty_api_Rule) rfl) ?_
  refine r_w01 rfl rfl rfl (t_store0 _ rfl rfl rfl (Wk.refl _) (pf2 _ _ _ _) (by exact ty_api_Rule) rfl rfl rfl) ?_
  refine r_end ?_
  obtain rfl := Option.some.inj hr
  refine g_ret Try.func26 _ (.cons (resRef rfl (.head _) (by exact ty_api_Rule) rfl (Wk.refl _)) .nil) ?_
  rfl

noncomputable def lf_slices_EqualFunc_s6_L0 (k : Option (Bool)) (s2_a1 : (List At)) : List At → Nat → Option (Bool)
  | [], i_2 =>
  k
  | q_3 :: rest, i_2 =>
  ((getI s2_a1 (i_2 : Int)).bind fun q_5 =>
  ((x_sameA q_3 q_5).bind fun r_7 =>
  (bif (!r_7) then
  some (false)
  else
  (lf_slices_EqualFunc_s6_L0 k s2_a1 rest (i_2 + 1)))))
noncomputable def lf_slices_EqualFunc_s6 (s1_a0 : (List At)) (s2_a1 : (List At)) : Option (Bool) :=
  (bif ((s1_a0.length : Int) != (s2_a1.length : Int)) then
  some (false)
  else
  (lf_slices_EqualFunc_s6_L0 (some (true)) s2_a1 s1_a0 0))

set_option maxHeartbeats 1000000 in
theorem lg_slices_EqualFunc_s6 (s1_a0 : (List At)) (s2_a1 : (List At)) (res : Bool) (hr : lf_slices_EqualFunc_s6 s1_a0 s2_a1 = some res) : Gives Try.prog 70 [.lst (s1_a0.map encA), .lst (s2_a1.map encA), .clo (.func 71) [] []] (.bool res) := by
  unfold lf_slices_EqualFunc_s6 at hr
  refine spec_env [(0, .lst (s1_a0.map encA)), (1, .lst (s2_a1.map encA)), (2, .clo (.func 71) [] [])] Try.func70 rfl rfl fun K hK => ?_
  refine g_seq ?_
  refine g_run (by kernel_rfl) [(0, .d)] rfl ?_
  refine r_d rfl rfl rfl (s_assign rfl rfl) ?_
  refine r_end ?_
  refine g_seq ?_
  refine g_seq ?_
  refine g_run (by kernel_rfl) [(0, .d), (1, .d), (2, .d), (3, .d), (4, .d)] rfl ?_
  refine r_d rfl rfl rfl (s_move rfl rfl) ?_
  refine r_d rfl rfl rfl (m_len (f := encA) s1_a0 rfl el_L_api_Atom rfl (asl rfl)) ?_
  refine r_d rfl rfl rfl (s_move rfl rfl) ?_
  refine r_d rfl rfl rfl (m_len (f := encA) s2_a1 rfl el_L_api_Atom rfl (asl rfl)) ?_
  refine r_d rfl rfl rfl (s_cmp rfl rfl rfl rfl) ?_
  refine r_end ?_
  refine g_sB 14 rfl hr (fun h14_0 hr => ?_) (fun h14_0 hr => ?_)
  ·
   refine g_condT rfl ?_
   refine g_seq ?_
   refine g_run (by kernel_rfl) [(0, .d)] rfl ?_
   refine r_d rfl rfl rfl (s_assign rfl rfl) ?_
   refine r_end ?_
   obtain rfl := Option.some.inj hr
   refine g_ret Try.func70 _ (.cons (resTmp rfl (Wk.refl _)) .nil) ?_
   rfl
  ·
   refine g_condF rfl ?_
   refine g_skip ?_
   refine g_seq ?_
   refine g_seq ?_
   refine g_run (by kernel_rfl) [(0, .d), (1, .d), (2, .d)] rfl ?_
   refine r_d rfl rfl rfl (s_move rfl rfl) ?_
   refine r_d rfl rfl rfl (m_len (f := encA) s1_a0 rfl el_L_api_Atom rfl (asl rfl)) ?_
   refine r_d rfl rfl rfl (s_move rfl rfl) ?_
   refine r_end ?_
   obtain ⟨kk0, hkk0, hr⟩ := exK (fun k => lf_slices_EqualFunc_s6_L0 k s2_a1 s1_a0 0) hr
   refine g_len 0 rfl (asl rfl) fun hla0 => ?_
   simp only [List.length_map] at hla0
   refine g_blockJ (fun env σ => env = [] ∧ σ = [] ∧ kk0 = some res) ?_ (fun HK0 => ?_)
   ·
    rintro _ _ ⟨rfl, rfl, hr⟩
    rw [hkk0] at hr
    refine g_seq ?_
    refine g_run (by kernel_rfl) [(0, .d)] rfl ?_
    refine r_d rfl rfl rfl (s_assign rfl rfl) ?_
    refine r_end ?_
    obtain rfl := Option.some.inj hr
    refine g_ret Try.func70 _ (.cons (resTmp rfl (Wk.refl _)) .nil) ?_
    rfl
   ·
    refine g_sub [(1, .lst (s2_a1.map encA)), (2, .clo (.func 71) [] []), (15, .lst (s1_a0.map encA)), (16, .int .i64 (s1_a0.length : Int)), (17, .int .i64 ((0 : Nat) : Int))] (Sub.cons' rfl (Sub.cons' rfl (Sub.cons' rfl (Sub.cons' rfl (Sub.cons' rfl (Sub.nil _)))))) ?_
    refine g_loop (fun n env σ => ∃ (i_2 : Nat), (n = s1_a0.length - i_2) ∧ (env = [(1, .lst (s2_a1.map encA)), (2, .clo (.func 71) [] []), (15, .lst (s1_a0.map encA)), (16, .int .i64 (s1_a0.length : Int)), (17, .int .i64 (i_2 : Int))]) ∧ (σ = []) ∧ (i_2 ≤ s1_a0.length) ∧ (lf_slices_EqualFunc_s6_L0 kk0 s2_a1 (s1_a0.drop i_2) i_2 = some res)) _ ⟨0, rfl, rfl, rfl, Nat.zero_le _, hr⟩ ?_
    rintro n _ _ ⟨i_2, rfl, rfl, rfl, hi0, hr⟩ IH0
    rcases listStep s1_a0 i_2 hi0 with ⟨ht0, hd0, he0⟩ | ⟨q_3, ht0, hd0, hq0, hlt0⟩
    ·
     rw [hd0, lf_slices_EqualFunc_s6_L0] at hr
     refine g_seq ?_
     refine g_run (by kernel_rfl) [(0, .d)] rfl ?_
     refine r_d rfl rfl rfl (s_cmp rfl rfl rfl rfl) ?_
     refine r_end ?_
     refine g_seq ?_
     refine g_known 18 false rfl ht0 ?_
     refine g_condF rfl ?_
     refine g_exit rfl ?_
     refine g_sub [] (Sub.nil _) ?_
     exact HK0 _ _ ⟨rfl, rfl, hr⟩
    ·
     rw [hd0, lf_slices_EqualFunc_s6_L0] at hr
     refine g_seq ?_
     refine g_run (by kernel_rfl) [(0, .d)] rfl ?_
     refine r_d rfl rfl rfl (s_cmp rfl rfl rfl rfl) ?_
     refine r_end ?_
     refine g_seq ?_
     refine g_known 18 true rfl ht0 ?_
     refine g_condT rfl ?_
     refine g_skip ?_
     refine g_seq ?_
     refine g_block ?_
     refine g_seq ?_
     refine g_run (by kernel_rfl) [(0, .d), (1, .d), (2, .d), (3, .w), (4, .d), (5, .w)] rfl ?_
     refine r_d rfl rfl rfl (s_move rfl rfl) ?_
     refine r_d rfl rfl rfl (m_index (f := encA) s1_a0 rfl el_L_api_Atom rfl (asl rfl) rfl hq0 sz_encA rfl) ?_
     refine r_d rfl rfl rfl (s_load rfl rfl (by exact ty_api_Atom) (sz_encA _)) ?_
     refine r_w rfl rfl rfl (s_alloc rfl zv_api_Atom) ?_
     rintro _ _ ⟨b8_3, rfl, rfl⟩
     refine r_d rfl rfl rfl (s_assign rfl rfl) ?_
     refine r_w01 rfl rfl rfl (t_store0 _ rfl rfl rfl (Wk.refl _) (pf0 _) (by exact ty_api_Atom) (sz_encA _) rfl rfl) ?_
     refine r_end ?_
     refine g_freeze 8 b8_3 rfl (pf0 _) ?_
     refine g_seq ?_
     refine g_run (by kernel_rfl) [(0, .d), (1, .d), (2, .d), (3, .d), (4, .w), (5, .w)] rfl ?_
     refine r_d rfl rfl rfl (s_move rfl rfl) ?_
     refine r_d rfl rfl rfl (s_move rfl rfl) ?_
     obtain ⟨q_5, hq_5, hr⟩ := bindS hr
     refine r_d rfl rfl rfl (m_index (f := encA) s2_a1 rfl el_L_api_Atom rfl (asl rfl) rfl hq_5 sz_encA rfl) ?_
     refine r_d rfl rfl rfl (s_load rfl rfl (by exact ty_api_Atom) (sz_encA _)) ?_
     refine r_w rfl rfl rfl (s_alloc rfl zv_api_Atom) ?_
     rintro _ _ ⟨b9_5, rfl, rfl⟩
     refine r_w01 rfl rfl rfl (t_store0 _ rfl rfl rfl (Wk.refl _) (pf0 _) (by exact ty_api_Atom) (sz_encA _) rfl rfl) ?_
     refine r_end ?_
     refine g_freeze 9 b9_5 rfl (pf0 _) ?_
     refine g_seq ?_
     refine g_run (by kernel_rfl) [(0, .d), (1, .d), (2, .d), (3, .d), (4, .d)] rfl ?_
     refine r_d rfl rfl rfl (s_move rfl rfl) ?_
     refine r_d rfl rfl rfl (s_load rfl rfl (by exact ty_api_Atom) (sz_encA _)) ?_
     refine r_d rfl rfl rfl (s_load rfl rfl (by exact ty_api_Atom) (sz_encA _)) ?_
     obtain ⟨r_7, hr_7, hr⟩ := bindS hr
     refine r_d rfl rfl rfl (s_callVD rfl rfl cl_term_SameAtom (.cons rfl (Wk.refl _) (.cons rfl (Wk.refl _) .nil)) rfl (lx_term_SameAtom _ _ _ hr_7)) ?_
     refine r_d rfl rfl rfl (s_not rfl rfl) ?_
     refine r_end ?_
     refine g_sB 30 rfl hr (fun h30_7 hr => ?_) (fun h30_7 hr => ?_)
     ·
      refine g_condT rfl ?_
      refine g_seq ?_
      refine g_run (by kernel_rfl) [(0, .d)] rfl ?_
      refine r_d rfl rfl rfl (s_assign rfl rfl) ?_
      refine r_end ?_
      obtain rfl := Option.some.inj hr
      refine g_ret Try.func70 _ (.cons (resTmp rfl (Wk.refl _)) .nil) ?_
      rfl
     ·
      refine g_condF rfl ?_
      refine g_skip ?_
      refine g_inBlock ?_
      refine g_run (by kernel_rfl) [(0, .d), (1, .d)] rfl ?_
      refine r_d rfl rfl rfl (s_ar (r := ((i_2 + 1 : Nat) : Int)) rfl rfl rfl (by simp [iar]) (by omega)) ?_
      refine r_d rfl rfl rfl (s_move rfl rfl) ?_
      refine r_end ?_
      refine g_sub [(1, .lst (s2_a1.map encA)), (2, .clo (.func 71) [] []), (15, .lst (s1_a0.map encA)), (16, .int .i64 (s1_a0.length : Int)), (17, .int .i64 ((i_2 + 1 : Nat) : Int))] (Sub.cons' rfl (Sub.cons' rfl (Sub.cons' rfl (Sub.cons' rfl (Sub.cons' rfl (Sub.nil _)))))) ?_
      exact IH0 _ _ _ (by omega) ⟨(i_2 + 1), rfl, rfl, rfl, (by omega), hr⟩

noncomputable def lf_normal_sameAtoms (a_a0 : (List At)) (b_a1 : (List At)) : Option (Bool) :=
  ((lf_slices_EqualFunc_s6 a_a0 b_a1).bind fun r_1 =>
  some (r_1))

set_option maxHeartbeats 1000000 in
theorem lg_normal_sameAtoms (a_a0 : (List At)) (b_a1 : (List At)) (res : Bool) (hr : lf_normal_sameAtoms a_a0 b_a1 = some res) : Gives Try.prog 58 [.lst (a_a0.map encA), .lst (b_a1.map encA)] (.bool res) := by
  unfold lf_normal_sameAtoms at hr
  refine spec_env [(0, .lst (a_a0.map encA)), (1, .lst (b_a1.map encA))] Try.func58 rfl rfl fun K hK => ?_
  refine g_seq ?_
  refine g_run (by kernel_rfl) [(0, .d)] rfl ?_
  refine r_d rfl rfl rfl (s_assign rfl rfl) ?_
  refine r_end ?_
  refine g_seq ?_
  refine g_run (by kernel_rfl) [(0, .d), (1, .d), (2, .d), (3, .d)] rfl ?_
  refine r_d rfl rfl rfl (s_move rfl rfl) ?_
  refine r_d rfl rfl rfl (s_move rfl rfl) ?_
  obtain ⟨r_1, hr_1, hr⟩ := bindS hr
  refine r_d rfl rfl rfl (s_callD rfl cl_slices_EqualFunc_api_Atom_api_Atom_api_Atom_api_Atom (.cons rfl (Wk.refl _) (.cons rfl (Wk.refl _) (.cons rfl (Wk.refl _) .nil))) (lg_slices_EqualFunc_s6 _ _ _ hr_1)) ?_
  refine r_d rfl rfl rfl (s_assign rfl rfl) ?_
  refine r_end ?_
  obtain rfl := Option.some.inj hr
  refine g_ret Try.func58 _ (.cons (resTmp rfl (Wk.refl _)) .nil) ?_
  rfl

noncomputable def lf_slices_EqualFunc_s7_L0 (k : Option (Bool)) (s2_a1 : (List Gl)) : List Gl → Nat → Option (Bool)
  | [], i_2 =>
  k
  | q_3 :: rest, i_2 =>
  ((getI s2_a1 (i_2 : Int)).bind fun q_5 =>
  ((x_sameG q_3 q_5).bind fun r_7 =>
  (bif (!r_7) then
  some (false)
  else
  (lf_slices_EqualFunc_s7_L0 k s2_a1 rest (i_2 + 1)))))
noncomputable def lf_slices_EqualFunc_s7 (s1_a0 : (List Gl)) (s2_a1 : (List Gl)) : Option (Bool) :=
  (bif ((s1_a0.length : Int) != (s2_a1.length : Int)) then
  some (false)
  else
  (lf_slices_EqualFunc_s7_L0 (some (true)) s2_a1 s1_a0 0))

set_option maxHeartbeats 1000000 in
theorem lg_slices_EqualFunc_s7 (s1_a0 : (List Gl)) (s2_a1 : (List Gl)) (res : Bool) (hr : lf_slices_EqualFunc_s7 s1_a0 s2_a1 = some res) : Gives Try.prog 72 [.lst (s1_a0.map encG), .lst (s2_a1.map encG), .clo (.func 73) [] []] (.bool res) := by
  unfold lf_slices_EqualFunc_s7 at hr
  refine spec_env [(0, .lst (s1_a0.map encG)), (1, .lst (s2_a1.map encG)), (2, .clo (.func 73) [] [])] Try.func72 rfl rfl fun K hK => ?_
  refine g_seq ?_
  refine g_run (by kernel_rfl) [(0, .d)] rfl ?_
  refine r_d rfl rfl rfl (s_assign rfl rfl) ?_
  refine r_end ?_
  refine g_seq ?_
  refine g_seq ?_
  refine g_run (by kernel_rfl) [(0, .d), (1, .d), (2, .d), (3, .d), (4, .d)] rfl ?_
  refine r_d rfl rfl rfl (s_move rfl rfl) ?_
  refine r_d rfl rfl rfl (m_len (f := encG) s1_a0 rfl el_L_api_Goal rfl (asl rfl)) ?_
  refine r_d rfl rfl rfl (s_move rfl rfl) ?_
  refine r_d rfl rfl rfl (m_len (f := encG) s2_a1 rfl el_L_api_Goal rfl (asl rfl)) ?_
  refine r_d rfl rfl rfl (s_cmp rfl rfl rfl rfl) ?_
  refine r_end ?_
  refine g_sB 14 rfl hr (fun h14_0 hr => ?_) (fun h14_0 hr => ?_)
  ·
   refine g_condT rfl ?_
   refine g_seq ?_
   refine g_run (by kernel_rfl) [(0, .d)] rfl ?_
   refine r_d rfl rfl rfl (s_assign rfl rfl) ?_
   refine r_end ?_
   obtain rfl := Option.some.inj hr
   refine g_ret Try.func72 _ (.cons (resTmp rfl (Wk.refl _)) .nil) ?_
   rfl
  ·
   refine g_condF rfl ?_
   refine g_skip ?_
   refine g_seq ?_
   refine g_seq ?_
   refine g_run (by kernel_rfl) [(0, .d), (1, .d), (2, .d)] rfl ?_
   refine r_d rfl rfl rfl (s_move rfl rfl) ?_
   refine r_d rfl rfl rfl (m_len (f := encG) s1_a0 rfl el_L_api_Goal rfl (asl rfl)) ?_
   refine r_d rfl rfl rfl (s_move rfl rfl) ?_
   refine r_end ?_
   obtain ⟨kk0, hkk0, hr⟩ := exK (fun k => lf_slices_EqualFunc_s7_L0 k s2_a1 s1_a0 0) hr
   refine g_len 0 rfl (asl rfl) fun hla0 => ?_
   simp only [List.length_map] at hla0
   refine g_blockJ (fun env σ => env = [] ∧ σ = [] ∧ kk0 = some res) ?_ (fun HK0 => ?_)
   ·
    rintro _ _ ⟨rfl, rfl, hr⟩
    rw [hkk0] at hr
    refine g_seq ?_
    refine g_run (by kernel_rfl) [(0, .d)] rfl ?_
    refine r_d rfl rfl rfl (s_assign rfl rfl) ?_
    refine r_end ?_
    obtain rfl := Option.some.inj hr
    refine g_ret Try.func72 _ (.cons (resTmp rfl (Wk.refl _)) .nil) ?_
    rfl
   ·
    refine g_sub [(1, .lst (s2_a1.map encG)), (2, .clo (.func 73) [] []), (15, .lst (s1_a0.map encG)), (16, .int .i64 (s1_a0.length : Int)), (17, .int .i64 ((0 : Nat) : Int))] (Sub.cons' rfl (Sub.cons' rfl (Sub.cons' rfl (Sub.cons' rfl (Sub.cons' rfl (Sub.nil _)))))) ?_
    refine g_loop (fun n env σ => ∃ (i_2 : Nat), (n = s1_a0.length - i_2) ∧ (env = [(1, .lst (s2_a1.map encG)), (2, .clo (.func 73) [] []), (15, .lst (s1_a0.map encG)), (16, .int .i64 (s1_a0.length : Int)), (17, .int .i64 (i_2 : Int))]) ∧ (σ = []) ∧ (i_2 ≤ s1_a0.length) ∧ (lf_slices_EqualFunc_s7_L0 kk0 s2_a1 (s1_a0.drop i_2) i_2 = some res)) _ ⟨0, rfl, rfl, rfl, Nat.zero_le _, hr⟩ ?_
    rintro n _ _ ⟨i_2, rfl, rfl, rfl, hi0, hr⟩ IH0
    rcases listStep s1_a0 i_2 hi0 with ⟨ht0, hd0, he0⟩ | ⟨q_3, ht0, hd0, hq0, hlt0⟩
    ·
     rw [hd0, lf_slices_EqualFunc_s7_L0] at hr
     refine g_seq ?_
     refine g_run (by kernel_rfl) [(0, .d)] rfl ?_
     refine r_d rfl rfl rfl (s_cmp rfl rfl rfl rfl) ?_
     refine r_end ?_
     refine g_seq ?_
     refine g_known 18 false rfl ht0 ?_
     refine g_condF rfl ?_
     refine g_exit rfl ?_
     refine g_sub [] (Sub.nil _) ?_
     exact HK0 _ _ ⟨rfl, rfl, hr⟩
    ·
     rw [hd0, lf_slices_EqualFunc_s7_L0] at hr
     refine g_seq ?_
     refine g_run (by kernel_rfl) [(0, .d)] rfl ?_
     refine r_d rfl rfl rfl (s_cmp rfl rfl rfl rfl) ?_
     refine r_end ?_
     refine g_seq ?_
     refine g_known 18 true rfl ht0 ?_
     refine g_condT rfl ?_
     refine g_skip ?_
     refine g_seq ?_
     refine g_block ?_
     refine g_seq ?_
     refine g_run (by kernel_rfl) [(0, .d), (1, .d), (2, .d), (3, .w), (4, .d), (5, .w)] rfl ?_
     refine r_d rfl rfl rfl (s_move rfl rfl) ?_
     refine r_d rfl rfl rfl (m_index (f := encG) s1_a0 rfl el_L_api_Goal rfl (asl rfl) rfl hq0 sz_encG rfl) ?_
     refine r_d rfl rfl rfl (s_load rfl rfl (by exact ty_api_Goal) (sz_encG _)) ?_
     refine r_w rfl rfl rfl (s_alloc rfl zv_api_Goal) ?_
     rintro _ _ ⟨b8_3, rfl, rfl⟩
     refine r_d rfl rfl rfl (s_assign rfl rfl) ?_
     refine r_w01 rfl rfl rfl (t_store0 _ rfl rfl rfl (Wk.refl _) (pf0 _) (by exact ty_api_Goal) (sz_encG _) rfl rfl) ?_
     refine r_end ?_
     refine g_freeze 8 b8_3 rfl (pf0 _) ?_
     refine g_seq ?_
     refine g_run (by kernel_rfl) [(0, .d), (1, .d), (2, .d), (3, .d), (4, .w), (5, .w)] rfl ?_
     refine r_d rfl rfl rfl (s_move rfl rfl) ?_
     refine r_d rfl rfl rfl (s_move rfl rfl) ?_
     obtain ⟨q_5, hq_5, hr⟩ := bindS hr
     refine r_d rfl rfl rfl (m_index (f := encG) s2_a1 rfl el_L_api_Goal rfl (asl rfl) rfl hq_5 sz_encG rfl) ?_
     refine r_d rfl rfl rfl (s_load rfl rfl (by exact ty_api_Goal) (sz_encG _)) ?_
     refine r_w rfl rfl rfl (s_alloc rfl zv_api_Goal) ?_
     rintro _ _ ⟨b9_5, rfl, rfl⟩
     refine r_w01 rfl rfl rfl (t_store0 _ rfl rfl rfl (Wk.refl _) (pf0 _) (by exact ty_api_Goal) (sz_encG _) rfl rfl) ?_
     refine r_end ?_
     refine g_freeze 9 b9_5 rfl (pf0 _) ?_
     refine g_seq ?_
     refine g_run (by kernel_rfl) [(0, .d), (1, .d), (2, .d), (3, .d), (4, .d)] rfl ?_
     refine r_d rfl rfl rfl (s_move rfl rfl) ?_
     refine r_d rfl rfl rfl (s_load rfl rfl (by exact ty_api_Goal) (sz_encG _)) ?_
     refine r_d rfl rfl rfl (s_load rfl rfl (by exact ty_api_Goal) (sz_encG _)) ?_
     obtain ⟨r_7, hr_7, hr⟩ := bindS hr
     refine r_d rfl rfl rfl (s_callVD rfl rfl cl_term_SameGoal (.cons rfl (Wk.refl _) (.cons rfl (Wk.refl _) .nil)) rfl (lx_term_SameGoal _ _ _ hr_7)) ?_
     refine r_d rfl rfl rfl (s_not rfl rfl) ?_
     refine r_end ?_
     refine g_sB 30 rfl hr (fun h30_7 hr => ?_) (fun h30_7 hr => ?_)
     ·
      refine g_condT rfl ?_
      refine g_seq ?_
      refine g_run (by kernel_rfl) [(0, .d)] rfl ?_
      refine r_d rfl rfl rfl (s_assign rfl rfl) ?_
      refine r_end ?_
      obtain rfl := Option.some.inj hr
      refine g_ret Try.func72 _ (.cons (resTmp rfl (Wk.refl _)) .nil) ?_
      rfl
     ·
      refine g_condF rfl ?_
      refine g_skip ?_
      refine g_inBlock ?_
      refine g_run (by kernel_rfl) [(0, .d), (1, .d)] rfl ?_
      refine r_d rfl rfl rfl (s_ar (r := ((i_2 + 1 : Nat) : Int)) rfl rfl rfl (by simp [iar]) (by omega)) ?_
      refine r_d rfl rfl rfl (s_move rfl rfl) ?_
      refine r_end ?_
      refine g_sub [(1, .lst (s2_a1.map encG)), (2, .clo (.func 73) [] []), (15, .lst (s1_a0.map encG)), (16, .int .i64 (s1_a0.length : Int)), (17, .int .i64 ((i_2 + 1 : Nat) : Int))] (Sub.cons' rfl (Sub.cons' rfl (Sub.cons' rfl (Sub.cons' rfl (Sub.cons' rfl (Sub.nil _)))))) ?_
      exact IH0 _ _ _ (by omega) ⟨(i_2 + 1), rfl, rfl, rfl, (by omega), hr⟩

noncomputable def lf_normal_sameGoals (a_a0 : (List Gl)) (b_a1 : (List Gl)) : Option (Bool) :=
  ((lf_slices_EqualFunc_s7 a_a0 b_a1).bind fun r_1 =>
  some (r_1))

set_option maxHeartbeats 1000000 in
theorem lg_normal_sameGoals (a_a0 : (List Gl)) (b_a1 : (List Gl)) (res : Bool) (hr : lf_normal_sameGoals a_a0 b_a1 = some res) : Gives Try.prog 59 [.lst (a_a0.map encG), .lst (b_a1.map encG)] (.bool res) := by
  unfold lf_normal_sameGoals at hr
  refine spec_env [(0, .lst (a_a0.map encG)), (1, .lst (b_a1.map encG))] Try.func59 rfl rfl fun K hK => ?_
  refine g_seq ?_
  refine g_run (by kernel_rfl) [(0, .d)] rfl ?_
  refine r_d rfl rfl rfl (s_assign rfl rfl) ?_
  refine r_end ?_
  refine g_seq ?_
  refine g_run (by kernel_rfl) [(0, .d), (1, .d), (2, .d), (3, .d)] rfl ?_
  refine r_d rfl rfl rfl (s_move rfl rfl) ?_
  refine r_d rfl rfl rfl (s_move rfl rfl) ?_
  obtain ⟨r_1, hr_1, hr⟩ := bindS hr
  refine r_d rfl rfl rfl (s_callD rfl cl_slices_EqualFunc_api_Goal_api_Goal_api_Goal_api_Goal (.cons rfl (Wk.refl _) (.cons rfl (Wk.refl _) (.cons rfl (Wk.refl _) .nil))) (lg_slices_EqualFunc_s7 _ _ _ hr_1)) ?_
  refine r_d rfl rfl rfl (s_assign rfl rfl) ?_
  refine r_end ?_
  obtain rfl := Option.some.inj hr
  refine g_ret Try.func59 _ (.cons (resTmp rfl (Wk.refl _)) .nil) ?_
  rfl

noncomputable def lf_normal_same (a_a0 : S_api_Rule) (b_a1 : S_api_Rule) : Option (Bool) :=
  (bif (a_a0.f0_Name.toList == b_a1.f0_Name.toList) then
  (bif (a_a0.f5_Vars == b_a1.f5_Vars) then
  ((lf_normal_sameAtoms a_a0.f1_Keep b_a1.f1_Keep).bind fun r_3 =>
  (bif r_3 then
  ((lf_normal_sameAtoms a_a0.f2_Remove b_a1.f2_Remove).bind fun r_5 =>
  (bif r_5 then
  ((lf_normal_sameGoals a_a0.f3_Guard b_a1.f3_Guard).bind fun r_7 =>
  (bif r_7 then
  ((lf_normal_sameGoals a_a0.f4_Body b_a1.f4_Body).bind fun r_9 =>
  some (r_9))
  else
  some (false)))
  else
  some (false)))
  else
  some (false)))
  else
  some (false))
  else
  some (false))

set_option maxHeartbeats 1000000 in
theorem lg_normal_same (a_a0 : S_api_Rule) (b_a1 : S_api_Rule) (res : Bool) (hr : lf_normal_same a_a0 b_a1 = some res) : Gives Try.prog 39 [enc_S_api_Rule a_a0, enc_S_api_Rule b_a1] (.bool res) := by
  unfold lf_normal_same at hr
  refine spec_env [(0, enc_S_api_Rule a_a0), (1, enc_S_api_Rule b_a1)] Try.func39 rfl rfl fun K hK => ?_
  refine g_seq ?_
  refine g_run (by kernel_rfl) [(0, .d), (1, .d), (2, .d)] rfl ?_
  refine r_d rfl rfl rfl (s_box rfl rfl rfl) ?_
  refine r_d rfl rfl rfl (s_box rfl rfl rfl) ?_
  refine r_d rfl rfl rfl (s_assign rfl rfl) ?_
  refine r_end ?_
  refine g_seq ?_
  refine g_run (by kernel_rfl) [(0, .d), (1, .d), (2, .d), (3, .d), (4, .d), (5, .d), (6, .d), (7, .d), (8, .d), (9, .d), (10, .d), (11, .d), (12, .d), (13, .d), (14, .d), (15, .d), (16, .d), (17, .d), (18, .d), (19, .d), (20, .d), (21, .d), (22, .d), (23, .d), (24, .d), (25, .d), (26, .d), (27, .d), (28, .d), (29, .d), (30, .d), (31, .d), (32, .d), (33, .d), (34, .d), (35, .d), (36, .d), (37, .d), (38, .d), (39, .d), (40, .d)] rfl ?_
  refine r_d rfl rfl rfl (s_fieldAddr rfl fl_api_Rule_0 rfl rfl rfl rfl) ?_
  refine r_d rfl rfl rfl (s_load rfl rfl (by exact ty_string) rfl) ?_
  refine r_d rfl rfl rfl (s_fieldAddr rfl fl_api_Rule_0 rfl rfl rfl rfl) ?_
  refine r_d rfl rfl rfl (s_load rfl rfl (by exact ty_string) rfl) ?_
  refine r_d rfl rfl rfl (s_cmpS rfl rfl rfl rfl) ?_
  refine r_d rfl rfl rfl (s_move rfl rfl) ?_
  refine r_sB 10 rfl hr (fun h10_0 hr => ?_) (fun h10_0 hr => ?_)
  ·
   refine r_d rfl rfl rfl (s_fieldAddr rfl fl_api_Rule_5 rfl rfl rfl rfl) ?_
   refine r_d rfl rfl rfl (s_load rfl rfl (by exact ty_int) rfl) ?_
   refine r_d rfl rfl rfl (s_fieldAddr rfl fl_api_Rule_5 rfl rfl rfl rfl) ?_
   refine r_d rfl rfl rfl (s_load rfl rfl (by exact ty_int) rfl) ?_
   refine r_d rfl rfl rfl (s_cmp rfl rfl rfl rfl) ?_
   refine r_d rfl rfl rfl (s_pickT rfl rfl rfl) ?_
   refine r_d rfl rfl rfl (s_move rfl rfl) ?_
   refine r_sB 17 rfl hr (fun h17_1 hr => ?_) (fun h17_1 hr => ?_)
   ·
    refine r_d rfl rfl rfl (s_fieldAddr rfl fl_api_Rule_1 rfl rfl rfl rfl) ?_
    refine r_d rfl rfl rfl (s_load rfl rfl (by exact ty_L_api_Atom) rfl) ?_
    refine r_d rfl rfl rfl (s_fieldAddr rfl fl_api_Rule_1 rfl rfl rfl rfl) ?_
    refine r_d rfl rfl rfl (s_load rfl rfl (by exact ty_L_api_Atom) rfl) ?_
    obtain ⟨r_3, hr_3, hr⟩ := bindS hr
    refine r_d rfl rfl rfl (s_callD rfl cl_normal_sameAtoms (.cons rfl (Wk.refl _) (.cons rfl (Wk.refl _) .nil)) (lg_normal_sameAtoms _ _ _ hr_3)) ?_
    refine r_d rfl rfl rfl (s_pickT rfl rfl rfl) ?_
    refine r_d rfl rfl rfl (s_move rfl rfl) ?_
    refine r_sB 24 rfl hr (fun h24_3 hr => ?_) (fun h24_3 hr => ?_)
    ·
     refine r_d rfl rfl rfl (s_fieldAddr rfl fl_api_Rule_2 rfl rfl rfl rfl) ?_
     refine r_d rfl rfl rfl (s_load rfl rfl (by exact ty_L_api_Atom) rfl) ?_
     refine r_d rfl rfl rfl (s_fieldAddr rfl fl_api_Rule_2 rfl rfl rfl rfl) ?_
     refine r_d rfl rfl rfl (s_load rfl rfl (by exact ty_L_api_Atom) rfl) ?_
     obtain ⟨r_5, hr_5, hr⟩ := bindS hr
     refine r_d rfl rfl rfl (s_callD rfl cl_normal_sameAtoms (.cons rfl (Wk.refl _) (.cons rfl (Wk.refl _) .nil)) (lg_normal_sameAtoms _ _ _ hr_5)) ?_
     refine r_d rfl rfl rfl (s_pickT rfl rfl rfl) ?_
     refine r_d rfl rfl rfl (s_move rfl rfl) ?_
     refine r_sB 31 rfl hr (fun h31_5 hr => ?_) (fun h31_5 hr => ?_)
     ·
      refine r_d rfl rfl rfl (s_fieldAddr rfl fl_api_Rule_3 rfl rfl rfl rfl) ?_
      refine r_d rfl rfl rfl (s_load rfl rfl (by exact ty_L_api_Goal) rfl) ?_
      refine r_d rfl rfl rfl (s_fieldAddr rfl fl_api_Rule_3 rfl rfl rfl rfl) ?_
      refine r_d rfl rfl rfl (s_load rfl rfl (by exact ty_L_api_Goal) rfl) ?_
      obtain ⟨r_7, hr_7, hr⟩ := bindS hr
      refine r_d rfl rfl rfl (s_callD rfl cl_normal_sameGoals (.cons rfl (Wk.refl _) (.cons rfl (Wk.refl _) .nil)) (lg_normal_sameGoals _ _ _ hr_7)) ?_
      refine r_d rfl rfl rfl (s_pickT rfl rfl rfl) ?_
      refine r_d rfl rfl rfl (s_move rfl rfl) ?_
      refine r_sB 38 rfl hr (fun h38_7 hr => ?_) (fun h38_7 hr => ?_)
      ·
       refine r_d rfl rfl rfl (s_fieldAddr rfl fl_api_Rule_4 rfl rfl rfl rfl) ?_
       refine r_d rfl rfl rfl (s_load rfl rfl (by exact ty_L_api_Goal) rfl) ?_
       refine r_d rfl rfl rfl (s_fieldAddr rfl fl_api_Rule_4 rfl rfl rfl rfl) ?_
       refine r_d rfl rfl rfl (s_load rfl rfl (by exact ty_L_api_Goal) rfl) ?_
       obtain ⟨r_9, hr_9, hr⟩ := bindS hr
       refine r_d rfl rfl rfl (s_callD rfl cl_normal_sameGoals (.cons rfl (Wk.refl _) (.cons rfl (Wk.refl _) .nil)) (lg_normal_sameGoals _ _ _ hr_9)) ?_
       refine r_d rfl rfl rfl (s_pickT rfl rfl rfl) ?_
       refine r_d rfl rfl rfl (s_assign rfl rfl) ?_
       refine r_end ?_
       obtain rfl := Option.some.inj hr
       refine g_ret Try.func39 _ (.cons (resTmp rfl (Wk.refl _)) .nil) ?_
       rfl
      ·
       refine r_skip rfl rfl rfl ?_
       refine r_skip rfl rfl rfl ?_
       refine r_skip rfl rfl rfl ?_
       refine r_skip rfl rfl rfl ?_
       refine r_skip rfl rfl rfl ?_
       refine r_d rfl rfl rfl (s_pickF rfl rfl rfl) ?_
       refine r_d rfl rfl rfl (s_assign rfl rfl) ?_
       refine r_end ?_
       obtain rfl := Option.some.inj hr
       refine g_ret Try.func39 _ (.cons (resTmp rfl (Wk.refl _)) .nil) ?_
       rfl
     ·
      refine r_skip rfl rfl rfl ?_
      refine r_skip rfl rfl rfl ?_
      refine r_skip rfl rfl rfl ?_
      refine r_skip rfl rfl rfl ?_
      refine r_skip rfl rfl rfl ?_
      refine r_d rfl rfl rfl (s_pickF rfl rfl rfl) ?_
      refine r_d rfl rfl rfl (s_move rfl rfl) ?_
      refine r_skip rfl rfl rfl ?_
      refine r_skip rfl rfl rfl ?_
      refine r_skip rfl rfl rfl ?_
      refine r_skip rfl rfl rfl ?_
      refine r_skip rfl rfl rfl ?_
      refine r_d rfl rfl rfl (s_pickF rfl rfl rfl) ?_
      refine r_d rfl rfl rfl (s_assign rfl rfl) ?_
      refine r_end ?_
      obtain rfl := Option.some.inj hr
      refine g_ret Try.func39 _ (.cons (resTmp rfl (Wk.refl _)) .nil) ?_
      rfl
    ·
     refine r_skip rfl rfl rfl ?_
     refine r_skip rfl rfl rfl ?_
     refine r_skip rfl rfl rfl ?_
     refine r_skip rfl rfl rfl ?_
     refine r_skip rfl rfl rfl ?_
     refine r_d rfl rfl rfl (s_pickF rfl rfl rfl) ?_
     refine r_d rfl rfl rfl (s_move rfl rfl) ?_
     refine r_skip rfl rfl rfl ?_
     refine r_skip rfl rfl rfl ?_
     refine r_skip rfl rfl rfl ?_
     refine r_skip rfl rfl rfl ?_
     refine r_skip rfl rfl rfl ?_
     refine r_d rfl rfl rfl (s_pickF rfl rfl rfl) ?_
     refine r_d rfl rfl rfl (s_move rfl rfl) ?_
     refine r_skip rfl rfl rfl ?_
     refine r_skip rfl rfl rfl ?_
     refine r_skip rfl rfl rfl ?_
     refine r_skip rfl rfl rfl ?_
     refine r_skip rfl rfl rfl ?_
     refine r_d rfl rfl rfl (s_pickF rfl rfl rfl) ?_
     refine r_d rfl rfl rfl (s_assign rfl rfl) ?_
     refine r_end ?_
     obtain rfl := Option.some.inj hr
     refine g_ret Try.func39 _ (.cons (resTmp rfl (Wk.refl _)) .nil) ?_
     rfl
   ·
    refine r_skip rfl rfl rfl ?_
    refine r_skip rfl rfl rfl ?_
    refine r_skip rfl rfl rfl ?_
    refine r_skip rfl rfl rfl ?_
    refine r_skip rfl rfl rfl ?_
    refine r_d rfl rfl rfl (s_pickF rfl rfl rfl) ?_
    refine r_d rfl rfl rfl (s_move rfl rfl) ?_
    refine r_skip rfl rfl rfl ?_
    refine r_skip rfl rfl rfl ?_
    refine r_skip rfl rfl rfl ?_
    refine r_skip rfl rfl rfl ?_
    refine r_skip rfl rfl rfl ?_
    refine r_d rfl rfl rfl (s_pickF rfl rfl rfl) ?_
    refine r_d rfl rfl rfl (s_move rfl rfl) ?_
    refine r_skip rfl rfl rfl ?_
    refine r_skip rfl rfl rfl ?_
    refine r_skip rfl rfl rfl ?_
    refine r_skip rfl rfl rfl ?_
    refine r_skip rfl rfl rfl ?_
    refine r_d rfl rfl rfl (s_pickF rfl rfl rfl) ?_
    refine r_d rfl rfl rfl (s_move rfl rfl) ?_
    refine r_skip rfl rfl rfl ?_
    refine r_skip rfl rfl rfl ?_
    refine r_skip rfl rfl rfl ?_
    refine r_skip rfl rfl rfl ?_
    refine r_skip rfl rfl rfl ?_
    refine r_d rfl rfl rfl (s_pickF rfl rfl rfl) ?_
    refine r_d rfl rfl rfl (s_assign rfl rfl) ?_
    refine r_end ?_
    obtain rfl := Option.some.inj hr
    refine g_ret Try.func39 _ (.cons (resTmp rfl (Wk.refl _)) .nil) ?_
    rfl
  ·
   refine r_skip rfl rfl rfl ?_
   refine r_skip rfl rfl rfl ?_
   refine r_skip rfl rfl rfl ?_
   refine r_skip rfl rfl rfl ?_
   refine r_skip rfl rfl rfl ?_
   refine r_d rfl rfl rfl (s_pickF rfl rfl rfl) ?_
   refine r_d rfl rfl rfl (s_move rfl rfl) ?_
   refine r_skip rfl rfl rfl ?_
   refine r_skip rfl rfl rfl ?_
   refine r_skip rfl rfl rfl ?_
   refine r_skip rfl rfl rfl ?_
   refine r_skip rfl rfl rfl ?_
   refine r_d rfl rfl rfl (s_pickF rfl rfl rfl) ?_
   refine r_d rfl rfl rfl (s_move rfl rfl) ?_
   refine r_skip rfl rfl rfl ?_
   refine r_skip rfl rfl rfl ?_
   refine r_skip rfl rfl rfl ?_
   refine r_skip rfl rfl rfl ?_
   refine r_skip rfl rfl rfl ?_
   refine r_d rfl rfl rfl (s_pickF rfl rfl rfl) ?_
   refine r_d rfl rfl rfl (s_move rfl rfl) ?_
   refine r_skip rfl rfl rfl ?_
   refine r_skip rfl rfl rfl ?_
   refine r_skip rfl rfl rfl ?_
   refine r_skip rfl rfl rfl ?_
   refine r_skip rfl rfl rfl ?_
   refine r_d rfl rfl rfl (s_pickF rfl rfl rfl) ?_
   refine r_d rfl rfl rfl (s_move rfl rfl) ?_
   refine r_skip rfl rfl rfl ?_
   refine r_skip rfl rfl rfl ?_
   refine r_skip rfl rfl rfl ?_
   refine r_skip rfl rfl rfl ?_
   refine r_skip rfl rfl rfl ?_
   refine r_d rfl rfl rfl (s_pickF rfl rfl rfl) ?_
   refine r_d rfl rfl rfl (s_assign rfl rfl) ?_
   refine r_end ?_
   obtain rfl := Option.some.inj hr
   refine g_ret Try.func39 _ (.cons (resTmp rfl (Wk.refl _)) .nil) ?_
   rfl

noncomputable def lf_normal_Same (fuel : Nat) (a_a0 : S_api_Rule) (b_a1 : S_api_Rule) : Option (Bool) :=
  ((lf_source_Number fuel a_a0).bind fun r_1 =>
  ((lf_source_Number fuel b_a1).bind fun r_2 =>
  ((lf_normal_same r_1 r_2).bind fun r_3 =>
  some (r_3))))

set_option maxHeartbeats 1000000 in
theorem lg_normal_Same (fuel : Nat) (a_a0 : S_api_Rule) (b_a1 : S_api_Rule) (res : Bool) (hr : lf_normal_Same fuel a_a0 b_a1 = some res) : Gives Try.prog 20 [enc_S_api_Rule a_a0, enc_S_api_Rule b_a1] (.bool res) := by
  unfold lf_normal_Same at hr
  refine spec_env [(0, enc_S_api_Rule a_a0), (1, enc_S_api_Rule b_a1)] Try.func20 rfl rfl fun K hK => ?_
  refine g_seq ?_
  refine g_run (by kernel_rfl) [(0, .d), (1, .d), (2, .d)] rfl ?_
  refine r_d rfl rfl rfl (s_box rfl rfl rfl) ?_
  refine r_d rfl rfl rfl (s_box rfl rfl rfl) ?_
  refine r_d rfl rfl rfl (s_assign rfl rfl) ?_
  refine r_end ?_
  refine g_seq ?_
  refine g_any (by kernel_rfl) (by kernel_rfl) [(0, .d), (1, .d), (2, .d), (3, .d), (4, .d), (5, .d)] (by kernel_rfl) ?_
  refine r_d rfl rfl rfl (s_load rfl rfl (by exact ty_api_Rule) (sz_S_api_Rule _)) ?_
  obtain ⟨r_1, hr_1, hr⟩ := bindS hr
  refine r_d rfl rfl rfl (s_callD rfl cl_source_Number (.cons rfl (Wk.refl _) .nil) (lg_source_Number fuel _ _ hr_1)) ?_
  refine r_d rfl rfl rfl (s_load rfl rfl (by exact ty_api_Rule) (sz_S_api_Rule _)) ?_
  obtain ⟨r_2, hr_2, hr⟩ := bindS hr
  refine r_d rfl rfl rfl (s_callD rfl cl_source_Number (.cons rfl (Wk.refl _) .nil) (lg_source_Number fuel _ _ hr_2)) ?_
  obtain ⟨r_3, hr_3, hr⟩ := bindS hr
  refine r_d rfl rfl rfl (s_callD rfl cl_normal_same (.cons rfl (Wk.refl _) (.cons rfl (Wk.refl _) .nil)) (lg_normal_same _ _ _ hr_3)) ?_
  refine r_d rfl rfl rfl (s_assign rfl rfl) ?_
  refine r_end ?_
  obtain rfl := Option.some.inj hr
  refine g_ret Try.func20 _ (.cons (resTmp rfl (Wk.refl _)) .nil) ?_
  rfl

noncomputable def lf_constraintref14_Terms_L3 (k : ((List T)) → Option ((List T))) : List Gl → (List T) → Option ((List T))
  | [], out_19 =>
  (k out_19)
  | q_23 :: rest, out_19 =>
  ((appO 56 out_19 q_23.ts).bind fun l_24 =>
  (lf_constraintref14_Terms_L3 k rest l_24))

noncomputable def lf_constraintref14_Terms_L2 (k : ((List T)) → Option ((List T))) : List Gl → (List T) → Option ((List T))
  | [], out_14 =>
  (k out_14)
  | q_26 :: rest, out_14 =>
  ((appO 56 out_14 q_26.ts).bind fun l_27 =>
  (lf_constraintref14_Terms_L2 k rest l_27))

noncomputable def lf_constraintref14_Terms_L1 (k : ((List T)) → Option ((List T))) : List At → (List T) → Option ((List T))
  | [], out_9 =>
  (k out_9)
  | q_29 :: rest, out_9 =>
  ((appO 56 out_9 q_29.ts).bind fun l_30 =>
  (lf_constraintref14_Terms_L1 k rest l_30))

noncomputable def lf_constraintref14_Terms_L0 (k : ((List T)) → Option ((List T))) : List At → (List T) → Option ((List T))
  | [], out_4 =>
  (k out_4)
  | q_32 :: rest, out_4 =>
  ((appO 56 out_4 q_32.ts).bind fun l_33 =>
  (lf_constraintref14_Terms_L0 k rest l_33))
noncomputable def lf_constraintref14_Terms (r_a0 : S_api_Rule) : Option ((List T)) :=
  (lf_constraintref14_Terms_L0 (fun out_7 =>
  (lf_constraintref14_Terms_L1 (fun out_12 =>
  (lf_constraintref14_Terms_L2 (fun out_17 =>
  (lf_constraintref14_Terms_L3 (fun out_22 =>
  some (out_22)) r_a0.f4_Body out_17)) r_a0.f3_Guard out_12)) r_a0.f2_Remove out_7)) r_a0.f1_Keep [])

set_option maxHeartbeats 1000000 in
theorem lg_constraintref14_Terms (r_a0 : S_api_Rule) (res : (List T)) (hr : lf_constraintref14_Terms r_a0 = some res) : Gives Try.prog 13 [enc_S_api_Rule r_a0] (.lst (res.map encT)) := by
  unfold lf_constraintref14_Terms at hr
  refine spec_env [(0, enc_S_api_Rule r_a0)] Try.func13 rfl rfl fun K hK => ?_
  refine g_seq ?_
  refine g_run (by kernel_rfl) [(0, .d), (1, .w)] rfl ?_
  refine r_d rfl rfl rfl (s_box rfl rfl rfl) ?_
  refine r_w rfl rfl rfl (s_nilOwn 36 4 (.inl rfl)) ?_
  rintro _ _ ⟨u2_0, rfl, rfl⟩
  refine r_end ?_
  refine g_seq ?_
  refine g_run (by kernel_rfl) [(0, .w)] rfl ?_
  refine r_w rfl rfl rfl (s_nilOwn 36 4 (.inl rfl)) ?_
  rintro _ _ ⟨u3_1, rfl, rfl⟩
  refine r_end ?_
  refine g_seq ?_
  refine g_seq ?_
  refine g_run (by kernel_rfl) [(0, .d)] rfl ?_
  refine r_d rfl rfl rfl (s_assign rfl rfl) ?_
  refine r_end ?_
  obtain ⟨kk0, hkk0, hr⟩ := exK (fun k => lf_constraintref14_Terms_L0 k r_a0.f1_Keep []) hr
  refine g_lenS 0 [1] (l := r_a0.f1_Keep.map encA) rfl rfl (asl rfl) fun hla0 => ?_
  simp only [List.length_map] at hla0
  refine g_blockJ (fun env σ => ∃ (out_7 : (List T)) (u_6 : Value), env = [(1, .ptr (enc_S_api_Rule r_a0)), (3, .own u_6 (out_7.map encT))] ∧ σ = [.row u_6 out_7.length 36 4] ∧ kk0 out_7 = some res) ?_ (fun HK0 => ?_)
  ·
   rintro _ _ ⟨out_7, u_6, rfl, rfl, hr⟩
   rw [hkk0] at hr
   refine g_seq ?_
   refine g_seq ?_
   refine g_run (by kernel_rfl) [(0, .d)] rfl ?_
   refine r_d rfl rfl rfl (s_assign rfl rfl) ?_
   refine r_end ?_
   obtain ⟨kk1, hkk1, hr⟩ := exK (fun k => lf_constraintref14_Terms_L1 k r_a0.f2_Remove out_7) hr
   refine g_lenP 1 [2] (l := r_a0.f2_Remove.map encA) rfl rfl (asl rfl) fun hla1 => ?_
   simp only [List.length_map] at hla1
   refine g_blockJ (fun env σ => ∃ (out_12 : (List T)) (u_11 : Value), env = [(1, .ptr (enc_S_api_Rule r_a0)), (3, .own u_11 (out_12.map encT))] ∧ σ = [.row u_11 out_12.length 36 4] ∧ kk1 out_12 = some res) ?_ (fun HK1 => ?_)
   ·
    rintro _ _ ⟨out_12, u_11, rfl, rfl, hr⟩
    rw [hkk1] at hr
    refine g_seq ?_
    refine g_seq ?_
    refine g_run (by kernel_rfl) [(0, .d)] rfl ?_
    refine r_d rfl rfl rfl (s_assign rfl rfl) ?_
    refine r_end ?_
    obtain ⟨kk2, hkk2, hr⟩ := exK (fun k => lf_constraintref14_Terms_L2 k r_a0.f3_Guard out_12) hr
    refine g_lenP 1 [3] (l := r_a0.f3_Guard.map encG) rfl rfl (asl rfl) fun hla2 => ?_
    simp only [List.length_map] at hla2
    refine g_blockJ (fun env σ => ∃ (out_17 : (List T)) (u_16 : Value), env = [(1, .ptr (enc_S_api_Rule r_a0)), (3, .own u_16 (out_17.map encT))] ∧ σ = [.row u_16 out_17.length 36 4] ∧ kk2 out_17 = some res) ?_ (fun HK2 => ?_)
    ·
     rintro _ _ ⟨out_17, u_16, rfl, rfl, hr⟩
     rw [hkk2] at hr
     refine g_seq ?_
     refine g_seq ?_
     refine g_run (by kernel_rfl) [(0, .d)] rfl ?_
     refine r_d rfl rfl rfl (s_assign rfl rfl) ?_
     refine r_end ?_
     obtain ⟨kk3, hkk3, hr⟩ := exK (fun k => lf_constraintref14_Terms_L3 k r_a0.f4_Body out_17) hr
     refine g_lenP 1 [4] (l := r_a0.f4_Body.map encG) rfl rfl (asl rfl) fun hla3 => ?_
     simp only [List.length_map] at hla3
     refine g_blockJ (fun env σ => ∃ (out_22 : (List T)) (u_21 : Value), env = [(3, .own u_21 (out_22.map encT))] ∧ σ = [.row u_21 out_22.length 36 4] ∧ kk3 out_22 = some res) ?_ (fun HK3 => ?_)
     ·
      rintro _ _ ⟨out_22, u_21, rfl, rfl, hr⟩
      rw [hkk3] at hr
      refine g_seq ?_
      refine g_run (by kernel_rfl) [(0, .d), (1, .d)] rfl ?_
      refine r_d rfl rfl rfl (s_move rfl rfl) ?_
      refine r_d rfl rfl rfl (s_assign rfl rfl) ?_
      refine r_end ?_
      obtain rfl := Option.some.inj hr
      refine g_ret Try.func13 _ (.cons (resTmp rfl (Wk.own _ _)) .nil) ?_
      rfl
     ·
      refine g_sub [(1, .ptr (enc_S_api_Rule r_a0)), (3, .own u_16 (out_17.map encT)), (7, .int .i64 ((0 : Nat) : Int))] (Sub.cons' rfl (Sub.cons' rfl (Sub.cons' rfl (Sub.nil _)))) ?_
      refine g_loop (fun n env σ => ∃ (out_19 : (List T)) (i_20 : Nat) (u_18 : Value), (n = r_a0.f4_Body.length - i_20) ∧ (env = [(1, .ptr (enc_S_api_Rule r_a0)), (3, .own u_18 (out_19.map encT)), (7, .int .i64 (i_20 : Int))]) ∧ (σ = [.row u_18 out_19.length 36 4]) ∧ (i_20 ≤ r_a0.f4_Body.length) ∧ (lf_constraintref14_Terms_L3 kk3 (r_a0.f4_Body.drop i_20) out_19 = some res)) _ ⟨out_17, 0, u_16, rfl, rfl, rfl, Nat.zero_le _, hr⟩ ?_
      rintro n _ _ ⟨out_19, i_20, u_18, rfl, rfl, rfl, hi3, hr⟩ IH3
      rcases listStep r_a0.f4_Body i_20 hi3 with ⟨ht3, hd3, he3⟩ | ⟨q_23, ht3, hd3, hq3, hlt3⟩
      ·
       rw [hd3, lf_constraintref14_Terms_L3] at hr
       refine g_seq ?_
       refine g_seq ?_
       refine g_run (by kernel_rfl) [(0, .d), (1, .d), (2, .d), (3, .d), (4, .d)] rfl ?_
       refine r_d rfl rfl rfl (s_move rfl rfl) ?_
       refine r_d rfl rfl rfl (s_fieldAddr rfl fl_api_Rule_4 rfl rfl rfl rfl) ?_
       refine r_d rfl rfl rfl (s_load rfl rfl (by exact ty_L_api_Goal) rfl) ?_
       refine r_d rfl rfl rfl (m_len (f := encG) r_a0.f4_Body rfl el_L_api_Goal rfl (asl rfl)) ?_
       refine r_d rfl rfl rfl (s_cmp rfl rfl rfl rfl) ?_
       refine r_end ?_
       refine g_known 57 false rfl ht3 ?_
       refine g_condF rfl ?_
       refine g_exit rfl ?_
       refine g_sub [(3, .own u_18 (out_19.map encT))] (Sub.cons' rfl (Sub.nil _)) ?_
       exact HK3 _ _ ⟨out_19, u_18, rfl, rfl, hr⟩
      ·
       rw [hd3, lf_constraintref14_Terms_L3] at hr
       refine g_seq ?_
       refine g_seq ?_
       refine g_run (by kernel_rfl) [(0, .d), (1, .d), (2, .d), (3, .d), (4, .d)] rfl ?_
       refine r_d rfl rfl rfl (s_move rfl rfl) ?_
       refine r_d rfl rfl rfl (s_fieldAddr rfl fl_api_Rule_4 rfl rfl rfl rfl) ?_
       refine r_d rfl rfl rfl (s_load rfl rfl (by exact ty_L_api_Goal) rfl) ?_
       refine r_d rfl rfl rfl (m_len (f := encG) r_a0.f4_Body rfl el_L_api_Goal rfl (asl rfl)) ?_
       refine r_d rfl rfl rfl (s_cmp rfl rfl rfl rfl) ?_
       refine r_end ?_
       refine g_known 57 true rfl ht3 ?_
       refine g_condT rfl ?_
       refine g_skip ?_
       refine g_seq ?_
       refine g_block ?_
       refine g_run (by kernel_rfl) [(0, .d), (1, .d), (2, .d), (3, .d), (4, .d), (5, .d), (6, .d), (7, .w), (8, .d)] rfl ?_
       refine r_d rfl rfl rfl (s_move rfl rfl) ?_
       refine r_d rfl rfl rfl (s_fieldAddr rfl fl_api_Rule_4 rfl rfl rfl rfl) ?_
       refine r_d rfl rfl rfl (s_load rfl rfl (by exact ty_L_api_Goal) rfl) ?_
       refine r_d rfl rfl rfl (s_move rfl rfl) ?_
       refine r_d rfl rfl rfl (m_index (f := encG) r_a0.f4_Body rfl el_L_api_Goal rfl (asl rfl) rfl hq3 sz_encG rfl) ?_
       refine r_d rfl rfl rfl (s_fieldAddr rfl fl_api_Goal_2 rfl rfl rfl rfl) ?_
       refine r_d rfl rfl rfl (s_load rfl rfl (by exact ty_L_api_Term) rfl) ?_
       obtain ⟨l_24, hl_24, hr⟩ := bindS hr
       refine r_w rfl rfl rfl (m_appOwn (f := encT) out_19 q_23.ts rfl el_L_api_Term rfl rfl (asl rfl) (pf0 _) rfl sz_encT hl_24) ?_
       rintro _ _ ⟨u67_24, rfl, rfl⟩
       refine r_d rfl rfl rfl (s_assign rfl rfl) ?_
       refine r_end ?_
       refine g_inBlock ?_
       refine g_run (by kernel_rfl) [(0, .d), (1, .d), (2, .d)] rfl ?_
       refine r_d rfl rfl rfl (s_move rfl rfl) ?_
       refine r_d rfl rfl rfl (s_ar (r := ((i_20 + 1 : Nat) : Int)) rfl rfl rfl (by simp [iar]) (by omega)) ?_
       refine r_d rfl rfl rfl (s_assign rfl rfl) ?_
       refine r_end ?_
       refine g_sub [(1, .ptr (enc_S_api_Rule r_a0)), (3, .own u67_24 (l_24.map encT)), (7, .int .i64 ((i_20 + 1 : Nat) : Int))] (Sub.cons' rfl (Sub.cons' rfl (Sub.cons' rfl (Sub.nil _)))) ?_
       exact IH3 _ _ _ (by omega) ⟨l_24, (i_20 + 1), u67_24, rfl, rfl, rfl, (by omega), hr⟩
    ·
     refine g_sub [(1, .ptr (enc_S_api_Rule r_a0)), (3, .own u_11 (out_12.map encT)), (6, .int .i64 ((0 : Nat) : Int))] (Sub.cons' rfl (Sub.cons' rfl (Sub.cons' rfl (Sub.nil _)))) ?_
     refine g_loop (fun n env σ => ∃ (out_14 : (List T)) (i_15 : Nat) (u_13 : Value), (n = r_a0.f3_Guard.length - i_15) ∧ (env = [(1, .ptr (enc_S_api_Rule r_a0)), (3, .own u_13 (out_14.map encT)), (6, .int .i64 (i_15 : Int))]) ∧ (σ = [.row u_13 out_14.length 36 4]) ∧ (i_15 ≤ r_a0.f3_Guard.length) ∧ (lf_constraintref14_Terms_L2 kk2 (r_a0.f3_Guard.drop i_15) out_14 = some res)) _ ⟨out_12, 0, u_11, rfl, rfl, rfl, Nat.zero_le _, hr⟩ ?_
     rintro n _ _ ⟨out_14, i_15, u_13, rfl, rfl, rfl, hi2, hr⟩ IH2
     rcases listStep r_a0.f3_Guard i_15 hi2 with ⟨ht2, hd2, he2⟩ | ⟨q_26, ht2, hd2, hq2, hlt2⟩
     ·
      rw [hd2, lf_constraintref14_Terms_L2] at hr
      refine g_seq ?_
      refine g_seq ?_
      refine g_run (by kernel_rfl) [(0, .d), (1, .d), (2, .d), (3, .d), (4, .d)] rfl ?_
      refine r_d rfl rfl rfl (s_move rfl rfl) ?_
      refine r_d rfl rfl rfl (s_fieldAddr rfl fl_api_Rule_3 rfl rfl rfl rfl) ?_
      refine r_d rfl rfl rfl (s_load rfl rfl (by exact ty_L_api_Goal) rfl) ?_
      refine r_d rfl rfl rfl (m_len (f := encG) r_a0.f3_Guard rfl el_L_api_Goal rfl (asl rfl)) ?_
      refine r_d rfl rfl rfl (s_cmp rfl rfl rfl rfl) ?_
      refine r_end ?_
      refine g_known 42 false rfl ht2 ?_
      refine g_condF rfl ?_
      refine g_exit rfl ?_
      refine g_sub [(1, .ptr (enc_S_api_Rule r_a0)), (3, .own u_13 (out_14.map encT))] (Sub.cons' rfl (Sub.cons' rfl (Sub.nil _))) ?_
      exact HK2 _ _ ⟨out_14, u_13, rfl, rfl, hr⟩
     ·
      rw [hd2, lf_constraintref14_Terms_L2] at hr
      refine g_seq ?_
      refine g_seq ?_
      refine g_run (by kernel_rfl) [(0, .d), (1, .d), (2, .d), (3, .d), (4, .d)] rfl ?_
      refine r_d rfl rfl rfl (s_move rfl rfl) ?_
      refine r_d rfl rfl rfl (s_fieldAddr rfl fl_api_Rule_3 rfl rfl rfl rfl) ?_
      refine r_d rfl rfl rfl (s_load rfl rfl (by exact ty_L_api_Goal) rfl) ?_
      refine r_d rfl rfl rfl (m_len (f := encG) r_a0.f3_Guard rfl el_L_api_Goal rfl (asl rfl)) ?_
      refine r_d rfl rfl rfl (s_cmp rfl rfl rfl rfl) ?_
      refine r_end ?_
      refine g_known 42 true rfl ht2 ?_
      refine g_condT rfl ?_
      refine g_skip ?_
      refine g_seq ?_
      refine g_block ?_
      refine g_run (by kernel_rfl) [(0, .d), (1, .d), (2, .d), (3, .d), (4, .d), (5, .d), (6, .d), (7, .w), (8, .d)] rfl ?_
      refine r_d rfl rfl rfl (s_move rfl rfl) ?_
      refine r_d rfl rfl rfl (s_fieldAddr rfl fl_api_Rule_3 rfl rfl rfl rfl) ?_
      refine r_d rfl rfl rfl (s_load rfl rfl (by exact ty_L_api_Goal) rfl) ?_
      refine r_d rfl rfl rfl (s_move rfl rfl) ?_
      refine r_d rfl rfl rfl (m_index (f := encG) r_a0.f3_Guard rfl el_L_api_Goal rfl (asl rfl) rfl hq2 sz_encG rfl) ?_
      refine r_d rfl rfl rfl (s_fieldAddr rfl fl_api_Goal_2 rfl rfl rfl rfl) ?_
      refine r_d rfl rfl rfl (s_load rfl rfl (by exact ty_L_api_Term) rfl) ?_
      obtain ⟨l_27, hl_27, hr⟩ := bindS hr
      refine r_w rfl rfl rfl (m_appOwn (f := encT) out_14 q_26.ts rfl el_L_api_Term rfl rfl (asl rfl) (pf0 _) rfl sz_encT hl_27) ?_
      rintro _ _ ⟨u52_27, rfl, rfl⟩
      refine r_d rfl rfl rfl (s_assign rfl rfl) ?_
      refine r_end ?_
      refine g_inBlock ?_
      refine g_run (by kernel_rfl) [(0, .d), (1, .d), (2, .d)] rfl ?_
      refine r_d rfl rfl rfl (s_move rfl rfl) ?_
      refine r_d rfl rfl rfl (s_ar (r := ((i_15 + 1 : Nat) : Int)) rfl rfl rfl (by simp [iar]) (by omega)) ?_
      refine r_d rfl rfl rfl (s_assign rfl rfl) ?_
      refine r_end ?_
      refine g_sub [(1, .ptr (enc_S_api_Rule r_a0)), (3, .own u52_27 (l_27.map encT)), (6, .int .i64 ((i_15 + 1 : Nat) : Int))] (Sub.cons' rfl (Sub.cons' rfl (Sub.cons' rfl (Sub.nil _)))) ?_
      exact IH2 _ _ _ (by omega) ⟨l_27, (i_15 + 1), u52_27, rfl, rfl, rfl, (by omega), hr⟩
   ·
    refine g_sub [(1, .ptr (enc_S_api_Rule r_a0)), (3, .own u_6 (out_7.map encT)), (5, .int .i64 ((0 : Nat) : Int))] (Sub.cons' rfl (Sub.cons' rfl (Sub.cons' rfl (Sub.nil _)))) ?_
    refine g_loop (fun n env σ => ∃ (out_9 : (List T)) (i_10 : Nat) (u_8 : Value), (n = r_a0.f2_Remove.length - i_10) ∧ (env = [(1, .ptr (enc_S_api_Rule r_a0)), (3, .own u_8 (out_9.map encT)), (5, .int .i64 (i_10 : Int))]) ∧ (σ = [.row u_8 out_9.length 36 4]) ∧ (i_10 ≤ r_a0.f2_Remove.length) ∧ (lf_constraintref14_Terms_L1 kk1 (r_a0.f2_Remove.drop i_10) out_9 = some res)) _ ⟨out_7, 0, u_6, rfl, rfl, rfl, Nat.zero_le _, hr⟩ ?_
    rintro n _ _ ⟨out_9, i_10, u_8, rfl, rfl, rfl, hi1, hr⟩ IH1
    rcases listStep r_a0.f2_Remove i_10 hi1 with ⟨ht1, hd1, he1⟩ | ⟨q_29, ht1, hd1, hq1, hlt1⟩
    ·
     rw [hd1, lf_constraintref14_Terms_L1] at hr
     refine g_seq ?_
     refine g_seq ?_
     refine g_run (by kernel_rfl) [(0, .d), (1, .d), (2, .d), (3, .d), (4, .d)] rfl ?_
     refine r_d rfl rfl rfl (s_move rfl rfl) ?_
     refine r_d rfl rfl rfl (s_fieldAddr rfl fl_api_Rule_2 rfl rfl rfl rfl) ?_
     refine r_d rfl rfl rfl (s_load rfl rfl (by exact ty_L_api_Atom) rfl) ?_
     refine r_d rfl rfl rfl (m_len (f := encA) r_a0.f2_Remove rfl el_L_api_Atom rfl (asl rfl)) ?_
     refine r_d rfl rfl rfl (s_cmp rfl rfl rfl rfl) ?_
     refine r_end ?_
     refine g_known 27 false rfl ht1 ?_
     refine g_condF rfl ?_
     refine g_exit rfl ?_
     refine g_sub [(1, .ptr (enc_S_api_Rule r_a0)), (3, .own u_8 (out_9.map encT))] (Sub.cons' rfl (Sub.cons' rfl (Sub.nil _))) ?_
     exact HK1 _ _ ⟨out_9, u_8, rfl, rfl, hr⟩
    ·
     rw [hd1, lf_constraintref14_Terms_L1] at hr
     refine g_seq ?_
     refine g_seq ?_
     refine g_run (by kernel_rfl) [(0, .d), (1, .d), (2, .d), (3, .d), (4, .d)] rfl ?_
     refine r_d rfl rfl rfl (s_move rfl rfl) ?_
     refine r_d rfl rfl rfl (s_fieldAddr rfl fl_api_Rule_2 rfl rfl rfl rfl) ?_
     refine r_d rfl rfl rfl (s_load rfl rfl (by exact ty_L_api_Atom) rfl) ?_
     refine r_d rfl rfl rfl (m_len (f := encA) r_a0.f2_Remove rfl el_L_api_Atom rfl (asl rfl)) ?_
     refine r_d rfl rfl rfl (s_cmp rfl rfl rfl rfl) ?_
     refine r_end ?_
     refine g_known 27 true rfl ht1 ?_
     refine g_condT rfl ?_
     refine g_skip ?_
     refine g_seq ?_
     refine g_block ?_
     refine g_run (by kernel_rfl) [(0, .d), (1, .d), (2, .d), (3, .d), (4, .d), (5, .d), (6, .d), (7, .w), (8, .d)] rfl ?_
     refine r_d rfl rfl rfl (s_move rfl rfl) ?_
     refine r_d rfl rfl rfl (s_fieldAddr rfl fl_api_Rule_2 rfl rfl rfl rfl) ?_
     refine r_d rfl rfl rfl (s_load rfl rfl (by exact ty_L_api_Atom) rfl) ?_
     refine r_d rfl rfl rfl (s_move rfl rfl) ?_
     refine r_d rfl rfl rfl (m_index (f := encA) r_a0.f2_Remove rfl el_L_api_Atom rfl (asl rfl) rfl hq1 sz_encA rfl) ?_
     refine r_d rfl rfl rfl (s_fieldAddr rfl fl_api_Atom_1 rfl rfl rfl rfl) ?_
     refine r_d rfl rfl rfl (s_load rfl rfl (by exact ty_L_api_Term) rfl) ?_
     obtain ⟨l_30, hl_30, hr⟩ := bindS hr
     refine r_w rfl rfl rfl (m_appOwn (f := encT) out_9 q_29.ts rfl el_L_api_Term rfl rfl (asl rfl) (pf0 _) rfl sz_encT hl_30) ?_
     rintro _ _ ⟨u37_30, rfl, rfl⟩
     refine r_d rfl rfl rfl (s_assign rfl rfl) ?_
     refine r_end ?_
     refine g_inBlock ?_
     refine g_run (by kernel_rfl) [(0, .d), (1, .d), (2, .d)] rfl ?_
     refine r_d rfl rfl rfl (s_move rfl rfl) ?_
     refine r_d rfl rfl rfl (s_ar (r := ((i_10 + 1 : Nat) : Int)) rfl rfl rfl (by simp [iar]) (by omega)) ?_
     refine r_d rfl rfl rfl (s_assign rfl rfl) ?_
     refine r_end ?_
     refine g_sub [(1, .ptr (enc_S_api_Rule r_a0)), (3, .own u37_30 (l_30.map encT)), (5, .int .i64 ((i_10 + 1 : Nat) : Int))] (Sub.cons' rfl (Sub.cons' rfl (Sub.cons' rfl (Sub.nil _)))) ?_
     exact IH1 _ _ _ (by omega) ⟨l_30, (i_10 + 1), u37_30, rfl, rfl, rfl, (by omega), hr⟩
  ·
   refine g_sub [(1, .ptr (enc_S_api_Rule r_a0)), (3, .own u3_1 ([].map encT)), (4, .int .i64 ((0 : Nat) : Int))] (Sub.cons' rfl (Sub.cons' rfl (Sub.cons' rfl (Sub.nil _)))) ?_
   refine g_perm [_] _ (pf0 _) ?_
   refine g_loop (fun n env σ => ∃ (out_4 : (List T)) (i_5 : Nat) (u_3 : Value), (n = r_a0.f1_Keep.length - i_5) ∧ (env = [(1, .ptr (enc_S_api_Rule r_a0)), (3, .own u_3 (out_4.map encT)), (4, .int .i64 (i_5 : Int))]) ∧ (σ = [.row u_3 out_4.length 36 4]) ∧ (i_5 ≤ r_a0.f1_Keep.length) ∧ (lf_constraintref14_Terms_L0 kk0 (r_a0.f1_Keep.drop i_5) out_4 = some res)) _ ⟨[], 0, u3_1, rfl, rfl, rfl, Nat.zero_le _, hr⟩ ?_
   rintro n _ _ ⟨out_4, i_5, u_3, rfl, rfl, rfl, hi0, hr⟩ IH0
   rcases listStep r_a0.f1_Keep i_5 hi0 with ⟨ht0, hd0, he0⟩ | ⟨q_32, ht0, hd0, hq0, hlt0⟩
   ·
    rw [hd0, lf_constraintref14_Terms_L0] at hr
    refine g_seq ?_
    refine g_seq ?_
    refine g_run (by kernel_rfl) [(0, .d), (1, .d), (2, .d), (3, .d), (4, .d)] rfl ?_
    refine r_d rfl rfl rfl (s_move rfl rfl) ?_
    refine r_d rfl rfl rfl (s_fieldAddr rfl fl_api_Rule_1 rfl rfl rfl rfl) ?_
    refine r_d rfl rfl rfl (s_load rfl rfl (by exact ty_L_api_Atom) rfl) ?_
    refine r_d rfl rfl rfl (m_len (f := encA) r_a0.f1_Keep rfl el_L_api_Atom rfl (asl rfl)) ?_
    refine r_d rfl rfl rfl (s_cmp rfl rfl rfl rfl) ?_
    refine r_end ?_
    refine g_known 12 false rfl ht0 ?_
    refine g_condF rfl ?_
    refine g_exit rfl ?_
    refine g_sub [(1, .ptr (enc_S_api_Rule r_a0)), (3, .own u_3 (out_4.map encT))] (Sub.cons' rfl (Sub.cons' rfl (Sub.nil _))) ?_
    exact HK0 _ _ ⟨out_4, u_3, rfl, rfl, hr⟩
   ·
    rw [hd0, lf_constraintref14_Terms_L0] at hr
    refine g_seq ?_
    refine g_seq ?_
    refine g_run (by kernel_rfl) [(0, .d), (1, .d), (2, .d), (3, .d), (4, .d)] rfl ?_
    refine r_d rfl rfl rfl (s_move rfl rfl) ?_
    refine r_d rfl rfl rfl (s_fieldAddr rfl fl_api_Rule_1 rfl rfl rfl rfl) ?_
    refine r_d rfl rfl rfl (s_load rfl rfl (by exact ty_L_api_Atom) rfl) ?_
    refine r_d rfl rfl rfl (m_len (f := encA) r_a0.f1_Keep rfl el_L_api_Atom rfl (asl rfl)) ?_
    refine r_d rfl rfl rfl (s_cmp rfl rfl rfl rfl) ?_
    refine r_end ?_
    refine g_known 12 true rfl ht0 ?_
    refine g_condT rfl ?_
    refine g_skip ?_
    refine g_seq ?_
    refine g_block ?_
    refine g_run (by kernel_rfl) [(0, .d), (1, .d), (2, .d), (3, .d), (4, .d), (5, .d), (6, .d), (7, .w), (8, .d)] rfl ?_
    refine r_d rfl rfl rfl (s_move rfl rfl) ?_
    refine r_d rfl rfl rfl (s_fieldAddr rfl fl_api_Rule_1 rfl rfl rfl rfl) ?_
    refine r_d rfl rfl rfl (s_load rfl rfl (by exact ty_L_api_Atom) rfl) ?_
    refine r_d rfl rfl rfl (s_move rfl rfl) ?_
    refine r_d rfl rfl rfl (m_index (f := encA) r_a0.f1_Keep rfl el_L_api_Atom rfl (asl rfl) rfl hq0 sz_encA rfl) ?_
    refine r_d rfl rfl rfl (s_fieldAddr rfl fl_api_Atom_1 rfl rfl rfl rfl) ?_
    refine r_d rfl rfl rfl (s_load rfl rfl (by exact ty_L_api_Term) rfl) ?_
    obtain ⟨l_33, hl_33, hr⟩ := bindS hr
    refine r_w rfl rfl rfl (m_appOwn (f := encT) out_4 q_32.ts rfl el_L_api_Term rfl rfl (asl rfl) (pf0 _) rfl sz_encT hl_33) ?_
    rintro _ _ ⟨u22_33, rfl, rfl⟩
    refine r_d rfl rfl rfl (s_assign rfl rfl) ?_
    refine r_end ?_
    refine g_inBlock ?_
    refine g_run (by kernel_rfl) [(0, .d), (1, .d), (2, .d)] rfl ?_
    refine r_d rfl rfl rfl (s_move rfl rfl) ?_
    refine r_d rfl rfl rfl (s_ar (r := ((i_5 + 1 : Nat) : Int)) rfl rfl rfl (by simp [iar]) (by omega)) ?_
    refine r_d rfl rfl rfl (s_assign rfl rfl) ?_
    refine r_end ?_
    refine g_sub [(1, .ptr (enc_S_api_Rule r_a0)), (3, .own u22_33 (l_33.map encT)), (4, .int .i64 ((i_5 + 1 : Nat) : Int))] (Sub.cons' rfl (Sub.cons' rfl (Sub.cons' rfl (Sub.nil _)))) ?_
    exact IH0 _ _ _ (by omega) ⟨l_33, (i_5 + 1), u22_33, rfl, rfl, rfl, (by omega), hr⟩

noncomputable def lf_constraintref03_has_L0 (k : Option (Bool)) (n_a1 : Int) : List Int → Option (Bool)
  | [] =>
  k
  | q_2 :: rest =>
  (bif (q_2 == n_a1) then
  some (true)
  else
  (lf_constraintref03_has_L0 k n_a1 rest))
noncomputable def lf_constraintref03_has (l_a0 : (List Int)) (n_a1 : Int) : Option (Bool) :=
  (lf_constraintref03_has_L0 (some (false)) n_a1 l_a0)

set_option maxHeartbeats 1000000 in
theorem lg_constraintref03_has (l_a0 : (List Int)) (n_a1 : Int) (res : Bool) (hr : lf_constraintref03_has l_a0 n_a1 = some res) : Gives Try.prog 49 [.lst (l_a0.map (D.int .i64)), .int .i64 n_a1] (.bool res) := by
  unfold lf_constraintref03_has at hr
  refine spec_env [(0, .lst (l_a0.map (D.int .i64))), (1, .int .i64 n_a1)] Try.func49 rfl rfl fun K hK => ?_
  refine g_seq ?_
  refine g_run (by kernel_rfl) [(0, .d)] rfl ?_
  refine r_d rfl rfl rfl (s_assign rfl rfl) ?_
  refine r_end ?_
  refine g_seq ?_
  refine g_seq ?_
  refine g_run (by kernel_rfl) [(0, .d)] rfl ?_
  refine r_d rfl rfl rfl (s_assign rfl rfl) ?_
  refine r_end ?_
  obtain ⟨kk0, hkk0, hr⟩ := exK (fun k => lf_constraintref03_has_L0 k n_a1 l_a0) hr
  refine g_len 0 rfl (asl rfl) fun hla0 => ?_
  simp only [List.length_map] at hla0
  refine g_blockJ (fun env σ => env = [] ∧ σ = [] ∧ kk0 = some res) ?_ (fun HK0 => ?_)
  ·
   rintro _ _ ⟨rfl, rfl, hr⟩
   rw [hkk0] at hr
   refine g_seq ?_
   refine g_run (by kernel_rfl) [(0, .d)] rfl ?_
   refine r_d rfl rfl rfl (s_assign rfl rfl) ?_
   refine r_end ?_
   obtain rfl := Option.some.inj hr
   refine g_ret Try.func49 _ (.cons (resTmp rfl (Wk.refl _)) .nil) ?_
   rfl
  ·
   refine g_sub [(0, .lst (l_a0.map (D.int .i64))), (1, .int .i64 n_a1), (5, .int .i64 ((0 : Nat) : Int))] (Sub.cons' rfl (Sub.cons' rfl (Sub.cons' rfl (Sub.nil _)))) ?_
   refine g_loop (fun n env σ => ∃ (i_1 : Nat), (n = l_a0.length - i_1) ∧ (env = [(0, .lst (l_a0.map (D.int .i64))), (1, .int .i64 n_a1), (5, .int .i64 (i_1 : Int))]) ∧ (σ = []) ∧ (i_1 ≤ l_a0.length) ∧ (lf_constraintref03_has_L0 kk0 n_a1 (l_a0.drop i_1) = some res)) _ ⟨0, rfl, rfl, rfl, Nat.zero_le _, hr⟩ ?_
   rintro n _ _ ⟨i_1, rfl, rfl, rfl, hi0, hr⟩ IH0
   rcases listStep l_a0 i_1 hi0 with ⟨ht0, hd0, he0⟩ | ⟨q_2, ht0, hd0, hq0, hlt0⟩
   ·
    rw [hd0, lf_constraintref03_has_L0] at hr
    refine g_seq ?_
    refine g_seq ?_
    refine g_run (by kernel_rfl) [(0, .d), (1, .d), (2, .d), (3, .d)] rfl ?_
    refine r_d rfl rfl rfl (s_move rfl rfl) ?_
    refine r_d rfl rfl rfl (s_move rfl rfl) ?_
    refine r_d rfl rfl rfl (m_len (f := (D.int .i64)) l_a0 rfl el_L_int rfl (asl rfl)) ?_
    refine r_d rfl rfl rfl (s_cmp rfl rfl rfl rfl) ?_
    refine r_end ?_
    refine g_known 9 false rfl ht0 ?_
    refine g_condF rfl ?_
    refine g_exit rfl ?_
    refine g_sub [] (Sub.nil _) ?_
    exact HK0 _ _ ⟨rfl, rfl, hr⟩
   ·
    rw [hd0, lf_constraintref03_has_L0] at hr
    refine g_seq ?_
    refine g_seq ?_
    refine g_run (by kernel_rfl) [(0, .d), (1, .d), (2, .d), (3, .d)] rfl ?_
    refine r_d rfl rfl rfl (s_move rfl rfl) ?_
    refine r_d rfl rfl rfl (s_move rfl rfl) ?_
    refine r_d rfl rfl rfl (m_len (f := (D.int .i64)) l_a0 rfl el_L_int rfl (asl rfl)) ?_
    refine r_d rfl rfl rfl (s_cmp rfl rfl rfl rfl) ?_
    refine r_end ?_
    refine g_known 9 true rfl ht0 ?_
    refine g_condT rfl ?_
    refine g_skip ?_
    refine g_seq ?_
    refine g_block ?_
    refine g_seq ?_
    refine g_run (by kernel_rfl) [(0, .d), (1, .d), (2, .d), (3, .d), (4, .d), (5, .d)] rfl ?_
    refine r_d rfl rfl rfl (s_move rfl rfl) ?_
    refine r_d rfl rfl rfl (s_move rfl rfl) ?_
    refine r_d rfl rfl rfl (m_index (f := (D.int .i64)) l_a0 rfl el_L_int rfl (asl rfl) rfl hq0 (fun _ => rfl) rfl) ?_
    refine r_d rfl rfl rfl (s_load rfl rfl (by exact ty_int) rfl) ?_
    refine r_d rfl rfl rfl (s_move rfl rfl) ?_
    refine r_d rfl rfl rfl (s_cmp rfl rfl rfl rfl) ?_
    refine r_end ?_
    refine g_sB 17 rfl hr (fun h17_2 hr => ?_) (fun h17_2 hr => ?_)
    ·
     refine g_condT rfl ?_
     refine g_seq ?_
     refine g_run (by kernel_rfl) [(0, .d)] rfl ?_
     refine r_d rfl rfl rfl (s_assign rfl rfl) ?_
     refine r_end ?_
     obtain rfl := Option.some.inj hr
     refine g_ret Try.func49 _ (.cons (resTmp rfl (Wk.refl _)) .nil) ?_
     rfl
    ·
     refine g_condF rfl ?_
     refine g_skip ?_
     refine g_inBlock ?_
     refine g_run (by kernel_rfl) [(0, .d), (1, .d), (2, .d)] rfl ?_
     refine r_d rfl rfl rfl (s_move rfl rfl) ?_
     refine r_d rfl rfl rfl (s_ar (r := ((i_1 + 1 : Nat) : Int)) rfl rfl rfl (by simp [iar]) (by omega)) ?_
     refine r_d rfl rfl rfl (s_assign rfl rfl) ?_
     refine r_end ?_
     refine g_sub [(0, .lst (l_a0.map (D.int .i64))), (1, .int .i64 n_a1), (5, .int .i64 ((i_1 + 1 : Nat) : Int))] (Sub.cons' rfl (Sub.cons' rfl (Sub.cons' rfl (Sub.nil _)))) ?_
     exact IH0 _ _ _ (by omega) ⟨(i_1 + 1), rfl, rfl, rfl, (by omega), hr⟩

noncomputable def lf_constraintref03_args (t_a0 : T) : Option ((List T)) :=
  (bif (t_a0.k == (2 : Int)) then
  some (t_a0.ar)
  else
  some ([]))

set_option maxHeartbeats 1000000 in
theorem lg_constraintref03_args (t_a0 : T) (res : (List T)) (hr : lf_constraintref03_args t_a0 = some res) : Gives Try.prog 50 [encT t_a0] (.lst (res.map encT)) := by
  unfold lf_constraintref03_args at hr
  refine spec_env [(0, encT t_a0)] Try.func50 rfl rfl fun K hK => ?_
  refine g_seq ?_
  refine g_run (by kernel_rfl) [(0, .d), (1, .d)] rfl ?_
  refine r_d rfl rfl rfl (s_box rfl rfl rfl) ?_
  refine r_d rfl rfl rfl (s_assign rfl rfl) ?_
  refine r_end ?_
  refine g_seq ?_
  refine g_seq ?_
  refine g_run (by kernel_rfl) [(0, .d), (1, .d), (2, .d)] rfl ?_
  refine r_d rfl rfl rfl (s_fieldAddr rfl fl_api_Term_0 rfl (fsT_get0 _) (fsT_off0 _) rfl) ?_
  refine r_d rfl rfl rfl (s_load rfl rfl (by exact ty_int) rfl) ?_
  refine r_d rfl rfl rfl (s_cmp rfl rfl rfl rfl) ?_
  refine r_end ?_
  refine g_sB 5 rfl hr (fun h5_0 hr => ?_) (fun h5_0 hr => ?_)
  ·
   refine g_condT rfl ?_
   refine g_seq ?_
   refine g_run (by kernel_rfl) [(0, .d), (1, .d), (2, .d)] rfl ?_
   refine r_d rfl rfl rfl (s_fieldAddr rfl fl_api_Term_3 rfl (fsT_get3 _) (fsT_off3 _) rfl) ?_
   refine r_d rfl rfl rfl (s_load rfl rfl (by exact ty_L_api_Term) rfl) ?_
   refine r_d rfl rfl rfl (s_assign rfl rfl) ?_
   refine r_end ?_
   obtain rfl := Option.some.inj hr
   refine g_ret Try.func50 _ (.cons (resTmp rfl (Wk.refl _)) .nil) ?_
   rfl
  ·
   refine g_condF rfl ?_
   refine g_skip ?_
   refine g_seq ?_
   refine g_run (by kernel_rfl) [(0, .d)] rfl ?_
   refine r_d rfl rfl rfl (s_assign rfl rfl) ?_
   refine r_end ?_
   obtain rfl := Option.some.inj hr
   refine g_ret Try.func50 _ (.cons (resTmp rfl (Wk.full _)) .nil) ?_
   rfl

noncomputable def lf_constraintref03_vars_s1_L0 (k : ((List Int)) → Option ((List Int))) (rec : (List Int) → T → Option ((List Int))) : List T → (List Int) → Option ((List Int))
  | [], l_6 =>
  (k l_6)
  | q_10 :: rest, l_6 =>
  ((rec l_6 q_10).bind fun r_11 =>
  (lf_constraintref03_vars_s1_L0 k rec rest r_11))

noncomputable def lf_constraintref03_vars_s1_J0 (k : ((List Int)) → Option ((List Int))) (l_a0 : (List Int)) (t_a1 : T) : Option ((List Int)) :=
  (bif (t_a1.k == (1 : Int)) then
  ((lf_constraintref03_has l_a0 t_a1.i).bind fun r_14 =>
  (bif (!r_14) then
  ((appO 8 l_a0 [t_a1.i]).bind fun l_16 =>
  (k l_16))
  else
  (k l_a0)))
  else
  (k l_a0))
noncomputable def lf_constraintref03_vars_s1 : Nat → (List Int) → T → Option ((List Int))
  | 0, _, _ => none
  | fuel + 1, l_a0, t_a1 =>
    (fun (rec : (List Int) → T → Option ((List Int))) =>
      (lf_constraintref03_vars_s1_J0 (fun l_3 =>
      ((lf_constraintref03_args t_a1).bind fun r_4 =>
      (lf_constraintref03_vars_s1_L0 (fun l_9 =>
      some (l_9)) rec r_4 l_3))) l_a0 t_a1)) (lf_constraintref03_vars_s1 fuel)

set_option maxHeartbeats 1000000 in
theorem lgs_constraintref03_vars_s1 (fuel : Nat) (rec : (List Int) → T → Option ((List Int))) (IHR : ∀ (l_a0 : (List Int)) (t_a1 : T) (u_o0 : Value) (res : (List Int)), rec l_a0 t_a1 = some res → Spec Try.prog 31 [.own u_o0 (l_a0.map (D.int .i64)), encT t_a1] [.row u_o0 l_a0.length 3 1] (fun d σ => ∃ (u_o0' : Value), d = .own u_o0' (res.map (D.int .i64)) ∧ σ = [.row u_o0' res.length 3 1])) (l_a0 : (List Int)) (t_a1 : T) (u_o0 : Value) (res : (List Int))
    (hr : (lf_constraintref03_vars_s1_J0 (fun l_3 =>
((lf_constraintref03_args t_a1).bind fun r_4 =>
(lf_constraintref03_vars_s1_L0 (fun l_9 =>
some (l_9)) rec r_4 l_3))) l_a0 t_a1) = some res) : Spec Try.prog 31 [.own u_o0 (l_a0.map (D.int .i64)), encT t_a1] [.row u_o0 l_a0.length 3 1] (fun d σ => ∃ (u_o0' : Value), d = .own u_o0' (res.map (D.int .i64)) ∧ σ = [.row u_o0' res.length 3 1]) := by
  refine spec_env [(0, .own u_o0 (l_a0.map (D.int .i64))), (1, encT t_a1)] Try.func31 rfl rfl fun K hK => ?_
  refine g_seq ?_
  refine g_run (by kernel_rfl) [(0, .d), (1, .w)] rfl ?_
  refine r_d rfl rfl rfl (s_box rfl rfl rfl) ?_
  refine r_w rfl rfl rfl (s_nilOwn 3 1 (.inl rfl)) ?_
  rintro _ _ ⟨u4_0, rfl, rfl⟩
  refine r_end ?_
  obtain ⟨kkJ0, hkkJ0, hr⟩ := exK (fun k => lf_constraintref03_vars_s1_J0 k l_a0 t_a1) hr
  refine g_seqJ (fun env σ => ∃ (l_3 : (List Int)) (u_2 : Value), env = [(0, .own u_2 (l_3.map (D.int .i64))), (3, .ptr (encT t_a1))] ∧ σ = [.row u_2 l_3.length 3 1] ∧ kkJ0 l_3 = some res) ?_ (fun HKJ0 => ?_)
  ·
   rintro _ _ ⟨l_3, u_2, rfl, rfl, hr⟩
   rw [hkkJ0] at hr
   refine g_seq ?_
   refine g_run (by kernel_rfl) [(0, .d), (1, .d), (2, .d)] rfl ?_
   refine r_d rfl rfl rfl (s_load rfl rfl (by exact ty_api_Term) (sz_encT _)) ?_
   obtain ⟨r_4, hr_4, hr⟩ := bindS hr
   refine r_d rfl rfl rfl (s_callD rfl cl_constraintref03_args (.cons rfl (Wk.refl _) .nil) (lg_constraintref03_args _ _ hr_4)) ?_
   refine r_d rfl rfl rfl (s_assign rfl rfl) ?_
   refine r_end ?_
   refine g_seq ?_
   refine g_seq ?_
   refine g_run (by kernel_rfl) [(0, .d)] rfl ?_
   refine r_d rfl rfl rfl (s_assign rfl rfl) ?_
   refine r_end ?_
   obtain ⟨kk0, hkk0, hr⟩ := exK (fun k => lf_constraintref03_vars_s1_L0 k rec r_4 l_3) hr
   refine g_len 23 rfl (asl rfl) fun hla0 => ?_
   simp only [List.length_map] at hla0
   refine g_blockJ (fun env σ => ∃ (l_9 : (List Int)) (u_8 : Value), env = [(0, .own u_8 (l_9.map (D.int .i64)))] ∧ σ = [.row u_8 l_9.length 3 1] ∧ kk0 l_9 = some res) ?_ (fun HK0 => ?_)
   ·
    rintro _ _ ⟨l_9, u_8, rfl, rfl, hr⟩
    rw [hkk0] at hr
    refine g_seq ?_
    refine g_run (by kernel_rfl) [(0, .d), (1, .d)] rfl ?_
    refine r_d rfl rfl rfl (s_move rfl rfl) ?_
    refine r_d rfl rfl rfl (s_assign rfl rfl) ?_
    refine r_end ?_
    obtain rfl := Option.some.inj hr
    refine g_ret Try.func31 _ (.cons (resTmp rfl (Wk.refl _)) .nil) ?_
    exact ⟨u_8, rfl, rfl⟩
   ·
    refine g_sub [(5, .lst (r_4.map encT)), (0, .own u_2 (l_3.map (D.int .i64))), (6, .int .i64 ((0 : Nat) : Int))] (Sub.cons' rfl (Sub.cons' rfl (Sub.cons' rfl (Sub.nil _)))) ?_
    refine g_loop (fun n env σ => ∃ (l_6 : (List Int)) (i_7 : Nat) (u_5 : Value), (n = r_4.length - i_7) ∧ (env = [(5, .lst (r_4.map encT)), (0, .own u_5 (l_6.map (D.int .i64))), (6, .int .i64 (i_7 : Int))]) ∧ (σ = [.row u_5 l_6.length 3 1]) ∧ (i_7 ≤ r_4.length) ∧ (lf_constraintref03_vars_s1_L0 kk0 rec (r_4.drop i_7) l_6 = some res)) _ ⟨l_3, 0, u_2, rfl, rfl, rfl, Nat.zero_le _, hr⟩ ?_
    rintro n _ _ ⟨l_6, i_7, u_5, rfl, rfl, rfl, hi0, hr⟩ IH0
    rcases listStep r_4 i_7 hi0 with ⟨ht0, hd0, he0⟩ | ⟨q_10, ht0, hd0, hq0, hlt0⟩
    ·
     rw [hd0, lf_constraintref03_vars_s1_L0] at hr
     refine g_seq ?_
     refine g_seq ?_
     refine g_run (by kernel_rfl) [(0, .d), (1, .d), (2, .d), (3, .d)] rfl ?_
     refine r_d rfl rfl rfl (s_move rfl rfl) ?_
     refine r_d rfl rfl rfl (s_move rfl rfl) ?_
     refine r_d rfl rfl rfl (m_len (f := encT) r_4 rfl el_L_api_Term rfl (asl rfl)) ?_
     refine r_d rfl rfl rfl (s_cmp rfl rfl rfl rfl) ?_
     refine r_end ?_
     refine g_known 27 false rfl ht0 ?_
     refine g_condF rfl ?_
     refine g_exit rfl ?_
     refine g_sub [(0, .own u_5 (l_6.map (D.int .i64)))] (Sub.cons' rfl (Sub.nil _)) ?_
     exact HK0 _ _ ⟨l_6, u_5, rfl, rfl, hr⟩
    ·
     rw [hd0, lf_constraintref03_vars_s1_L0] at hr
     refine g_seq ?_
     refine g_seq ?_
     refine g_run (by kernel_rfl) [(0, .d), (1, .d), (2, .d), (3, .d)] rfl ?_
     refine r_d rfl rfl rfl (s_move rfl rfl) ?_
     refine r_d rfl rfl rfl (s_move rfl rfl) ?_
     refine r_d rfl rfl rfl (m_len (f := encT) r_4 rfl el_L_api_Term rfl (asl rfl)) ?_
     refine r_d rfl rfl rfl (s_cmp rfl rfl rfl rfl) ?_
     refine r_end ?_
     refine g_known 27 true rfl ht0 ?_
     refine g_condT rfl ?_
     refine g_skip ?_
     refine g_seq ?_
     refine g_block ?_
     refine g_run (by kernel_rfl) [(0, .d), (1, .d), (2, .d), (3, .d), (4, .d), (5, .w), (6, .d)] rfl ?_
     refine r_d rfl rfl rfl (s_move rfl rfl) ?_
     refine r_d rfl rfl rfl (s_move rfl rfl) ?_
     refine r_d rfl rfl rfl (s_move rfl rfl) ?_
     refine r_d rfl rfl rfl (m_index (f := encT) r_4 rfl el_L_api_Term rfl (asl rfl) rfl hq0 sz_encT rfl) ?_
     refine r_d rfl rfl rfl (s_load rfl rfl (by exact ty_api_Term) (sz_encT _)) ?_
     obtain ⟨r_11, hr_11, hr⟩ := bindS hr
     refine r_w rfl rfl rfl (s_call _ rfl cl_constraintref03_vars (.cons rfl (Wk.refl _) (.cons rfl (Wk.refl _) .nil)) (by exact (pf0 _)) (IHR _ _ _ _ hr_11)) ?_
     rintro _ _ ⟨_, ⟨u35_11, rfl, rfl⟩, rfl⟩
     refine r_st ((.row u35_11 r_11.length 3 1) :: _) rfl ?_
     refine r_d rfl rfl rfl (s_assign rfl rfl) ?_
     refine r_end ?_
     refine g_inBlock ?_
     refine g_run (by kernel_rfl) [(0, .d), (1, .d), (2, .d)] rfl ?_
     refine r_d rfl rfl rfl (s_move rfl rfl) ?_
     refine r_d rfl rfl rfl (s_ar (r := ((i_7 + 1 : Nat) : Int)) rfl rfl rfl (by simp [iar]) (by omega)) ?_
     refine r_d rfl rfl rfl (s_assign rfl rfl) ?_
     refine r_end ?_
     refine g_sub [(5, .lst (r_4.map encT)), (0, .own u35_11 (r_11.map (D.int .i64))), (6, .int .i64 ((i_7 + 1 : Nat) : Int))] (Sub.cons' rfl (Sub.cons' rfl (Sub.cons' rfl (Sub.nil _)))) ?_
     exact IH0 _ _ _ (by omega) ⟨r_11, (i_7 + 1), u35_11, rfl, rfl, rfl, (by omega), hr⟩
  ·
   unfold lf_constraintref03_vars_s1_J0 at hr
   refine g_seq ?_
   refine g_run (by kernel_rfl) [(0, .d), (1, .d), (2, .d), (3, .d), (4, .d), (5, .d), (6, .d), (7, .d), (8, .d), (9, .d)] rfl ?_
   refine r_d rfl rfl rfl (s_fieldAddr rfl fl_api_Term_0 rfl (fsT_get0 _) (fsT_off0 _) rfl) ?_
   refine r_d rfl rfl rfl (s_load rfl rfl (by exact ty_int) rfl) ?_
   refine r_d rfl rfl rfl (s_cmp rfl rfl rfl rfl) ?_
   refine r_d rfl rfl rfl (s_move rfl rfl) ?_
   refine r_sB 10 rfl hr (fun h10_12 hr => ?_) (fun h10_12 hr => ?_)
   ·
    refine r_d rfl rfl rfl (s_move rfl rfl) ?_
    refine r_d rfl rfl rfl (s_fieldAddr rfl fl_api_Term_1 rfl (fsT_get1 _) (fsT_off1 _) rfl) ?_
    refine r_d rfl rfl rfl (s_load rfl rfl (by exact ty_int) rfl) ?_
    obtain ⟨r_14, hr_14, hr⟩ := bindS hr
    refine r_d rfl rfl rfl (s_callD rfl cl_constraintref03_has (.cons rfl (Wk.own _ _) (.cons rfl (Wk.refl _) .nil)) (lg_constraintref03_has _ _ _ hr_14)) ?_
    refine r_d rfl rfl rfl (s_not rfl rfl) ?_
    refine r_d rfl rfl rfl (s_pickT rfl rfl rfl) ?_
    refine r_end ?_
    refine g_sB 16 rfl hr (fun h16_14 hr => ?_) (fun h16_14 hr => ?_)
    ·
     refine g_condT rfl ?_
     refine g_run (by kernel_rfl) [(0, .d), (1, .d), (2, .d), (3, .d), (4, .w), (5, .d)] rfl ?_
     refine r_d rfl rfl rfl (s_move rfl rfl) ?_
     refine r_d rfl rfl rfl (s_fieldAddr rfl fl_api_Term_1 rfl (fsT_get1 _) (fsT_off1 _) rfl) ?_
     refine r_d rfl rfl rfl (s_load rfl rfl (by exact ty_int) rfl) ?_
     refine r_d rfl rfl rfl (m_lit (f := (D.int .i64)) [.tmp 19] [t_a1.i] rfl el_L_int rfl rfl (by decide) (by decide) (.cons rfl (Wk.refl _) .nil) (fun _ => rfl) (fun _ => rfl)) ?_
     obtain ⟨l_16, hl_16, hr⟩ := bindS hr
     refine r_w rfl rfl rfl (m_appOwn (f := (D.int .i64)) l_a0 [t_a1.i] rfl el_L_int rfl rfl (asl rfl) (pf1 _ _ _) rfl (fun _ => rfl) hl_16) ?_
     rintro _ _ ⟨u21_16, rfl, rfl⟩
     refine r_d rfl rfl rfl (s_assign rfl rfl) ?_
     refine r_end ?_
     refine g_sub [(0, .own u21_16 (l_16.map (D.int .i64))), (3, .ptr (encT t_a1))] (Sub.cons' rfl (Sub.cons' rfl (Sub.nil _))) ?_
     refine g_perm [_] _ (pf0 _) ?_
     exact HKJ0 _ _ ⟨l_16, u21_16, rfl, rfl, hr⟩
    ·
     refine g_condF rfl ?_
     refine g_skip ?_
     refine g_sub [(0, .own u_o0 (l_a0.map (D.int .i64))), (3, .ptr (encT t_a1))] (Sub.cons' rfl (Sub.cons' rfl (Sub.nil _))) ?_
     refine g_perm [_] _ (pf1 _ _ _) ?_
     exact HKJ0 _ _ ⟨l_a0, u_o0, rfl, rfl, hr⟩
   ·
    refine r_skip rfl rfl rfl ?_
    refine r_skip rfl rfl rfl ?_
    refine r_skip rfl rfl rfl ?_
    refine r_skip rfl rfl rfl ?_
    refine r_skip rfl rfl rfl ?_
    refine r_d rfl rfl rfl (s_pickF rfl rfl rfl) ?_
    refine r_end ?_
    refine g_condF rfl ?_
    refine g_skip ?_
    refine g_sub [(0, .own u_o0 (l_a0.map (D.int .i64))), (3, .ptr (encT t_a1))] (Sub.cons' rfl (Sub.cons' rfl (Sub.nil _))) ?_
    refine g_perm [_] _ (pf1 _ _ _) ?_
    exact HKJ0 _ _ ⟨l_a0, u_o0, rfl, rfl, hr⟩
theorem lg_constraintref03_vars_s1 : ∀ (fuel : Nat) (l_a0 : (List Int)) (t_a1 : T) (u_o0 : Value) (res : (List Int)), lf_constraintref03_vars_s1 fuel l_a0 t_a1 = some res → Spec Try.prog 31 [.own u_o0 (l_a0.map (D.int .i64)), encT t_a1] [.row u_o0 l_a0.length 3 1] (fun d σ => ∃ (u_o0' : Value), d = .own u_o0' (res.map (D.int .i64)) ∧ σ = [.row u_o0' res.length 3 1])
  | 0, _, _, _, _, h => by cases h
  | fuel + 1, l_a0, t_a1, u_o0, res, h => lgs_constraintref03_vars_s1 fuel (lf_constraintref03_vars_s1 fuel) (lg_constraintref03_vars_s1 fuel) l_a0 t_a1 u_o0 res h

noncomputable def lf_constraintref03_VarsOf_L0 (k : ((List Int)) → Option ((List Int))) (fuel : Nat) : List T → (List Int) → Option ((List Int))
  | [], out_4 =>
  (k out_4)
  | q_8 :: rest, out_4 =>
  ((lf_constraintref03_vars_s1 fuel out_4 q_8).bind fun r_9 =>
  (lf_constraintref03_VarsOf_L0 k fuel rest r_9))
noncomputable def lf_constraintref03_VarsOf (fuel : Nat) (l_a0 : (List T)) : Option ((List Int)) :=
  (lf_constraintref03_VarsOf_L0 (fun out_7 =>
  some (out_7)) fuel l_a0 [])

set_option maxHeartbeats 1000000 in
theorem lg_constraintref03_VarsOf (fuel : Nat) (l_a0 : (List T)) (res : (List Int)) (hr : lf_constraintref03_VarsOf fuel l_a0 = some res) : Gives Try.prog 12 [.lst (l_a0.map encT)] (.lst (res.map (D.int .i64))) := by
  unfold lf_constraintref03_VarsOf at hr
  refine spec_env [(0, .lst (l_a0.map encT))] Try.func12 rfl rfl fun K hK => ?_
  refine g_seq ?_
  refine g_run (by kernel_rfl) [(0, .w)] rfl ?_
  refine r_w rfl rfl rfl (s_nilOwn 3 1 (.inl rfl)) ?_
  rintro _ _ ⟨u2_0, rfl, rfl⟩
  refine r_end ?_
  refine g_seq ?_
  refine g_run (by kernel_rfl) [(0, .w)] rfl ?_
  refine r_w rfl rfl rfl (s_nilOwn 3 1 (.inl rfl)) ?_
  rintro _ _ ⟨u3_1, rfl, rfl⟩
  refine r_end ?_
  refine g_seq ?_
  refine g_seq ?_
  refine g_run (by kernel_rfl) [(0, .d)] rfl ?_
  refine r_d rfl rfl rfl (s_assign rfl rfl) ?_
  refine r_end ?_
  obtain ⟨kk0, hkk0, hr⟩ := exK (fun k => lf_constraintref03_VarsOf_L0 k fuel l_a0 []) hr
  refine g_len 0 rfl (asl rfl) fun hla0 => ?_
  simp only [List.length_map] at hla0
  refine g_blockJ (fun env σ => ∃ (out_7 : (List Int)) (u_6 : Value), env = [(3, .own u_6 (out_7.map (D.int .i64)))] ∧ σ = [.row u_6 out_7.length 3 1] ∧ kk0 out_7 = some res) ?_ (fun HK0 => ?_)
  ·
   rintro _ _ ⟨out_7, u_6, rfl, rfl, hr⟩
   rw [hkk0] at hr
   refine g_seq ?_
   refine g_run (by kernel_rfl) [(0, .d), (1, .d)] rfl ?_
   refine r_d rfl rfl rfl (s_move rfl rfl) ?_
   refine r_d rfl rfl rfl (s_assign rfl rfl) ?_
   refine r_end ?_
   obtain rfl := Option.some.inj hr
   refine g_ret Try.func12 _ (.cons (resTmp rfl (Wk.own _ _)) .nil) ?_
   rfl
  ·
   refine g_sub [(0, .lst (l_a0.map encT)), (3, .own u3_1 ([].map (D.int .i64))), (4, .int .i64 ((0 : Nat) : Int))] (Sub.cons' rfl (Sub.cons' rfl (Sub.cons' rfl (Sub.nil _)))) ?_
   refine g_perm [_] _ (pf0 _) ?_
   refine g_loop (fun n env σ => ∃ (out_4 : (List Int)) (i_5 : Nat) (u_3 : Value), (n = l_a0.length - i_5) ∧ (env = [(0, .lst (l_a0.map encT)), (3, .own u_3 (out_4.map (D.int .i64))), (4, .int .i64 (i_5 : Int))]) ∧ (σ = [.row u_3 out_4.length 3 1]) ∧ (i_5 ≤ l_a0.length) ∧ (lf_constraintref03_VarsOf_L0 kk0 fuel (l_a0.drop i_5) out_4 = some res)) _ ⟨[], 0, u3_1, rfl, rfl, rfl, Nat.zero_le _, hr⟩ ?_
   rintro n _ _ ⟨out_4, i_5, u_3, rfl, rfl, rfl, hi0, hr⟩ IH0
   rcases listStep l_a0 i_5 hi0 with ⟨ht0, hd0, he0⟩ | ⟨q_8, ht0, hd0, hq0, hlt0⟩
   ·
    rw [hd0, lf_constraintref03_VarsOf_L0] at hr
    refine g_seq ?_
    refine g_seq ?_
    refine g_run (by kernel_rfl) [(0, .d), (1, .d), (2, .d), (3, .d)] rfl ?_
    refine r_d rfl rfl rfl (s_move rfl rfl) ?_
    refine r_d rfl rfl rfl (s_move rfl rfl) ?_
    refine r_d rfl rfl rfl (m_len (f := encT) l_a0 rfl el_L_api_Term rfl (asl rfl)) ?_
    refine r_d rfl rfl rfl (s_cmp rfl rfl rfl rfl) ?_
    refine r_end ?_
    refine g_known 8 false rfl ht0 ?_
    refine g_condF rfl ?_
    refine g_exit rfl ?_
    refine g_sub [(3, .own u_3 (out_4.map (D.int .i64)))] (Sub.cons' rfl (Sub.nil _)) ?_
    exact HK0 _ _ ⟨out_4, u_3, rfl, rfl, hr⟩
   ·
    rw [hd0, lf_constraintref03_VarsOf_L0] at hr
    refine g_seq ?_
    refine g_seq ?_
    refine g_run (by kernel_rfl) [(0, .d), (1, .d), (2, .d), (3, .d)] rfl ?_
    refine r_d rfl rfl rfl (s_move rfl rfl) ?_
    refine r_d rfl rfl rfl (s_move rfl rfl) ?_
    refine r_d rfl rfl rfl (m_len (f := encT) l_a0 rfl el_L_api_Term rfl (asl rfl)) ?_
    refine r_d rfl rfl rfl (s_cmp rfl rfl rfl rfl) ?_
    refine r_end ?_
    refine g_known 8 true rfl ht0 ?_
    refine g_condT rfl ?_
    refine g_skip ?_
    refine g_seq ?_
    refine g_block ?_
    refine g_run (by kernel_rfl) [(0, .d), (1, .d), (2, .d), (3, .d), (4, .d), (5, .w), (6, .d)] rfl ?_
    refine r_d rfl rfl rfl (s_move rfl rfl) ?_
    refine r_d rfl rfl rfl (s_move rfl rfl) ?_
    refine r_d rfl rfl rfl (s_move rfl rfl) ?_
    refine r_d rfl rfl rfl (m_index (f := encT) l_a0 rfl el_L_api_Term rfl (asl rfl) rfl hq0 sz_encT rfl) ?_
    refine r_d rfl rfl rfl (s_load rfl rfl (by exact ty_api_Term) (sz_encT _)) ?_
    obtain ⟨r_9, hr_9, hr⟩ := bindS hr
    refine r_w rfl rfl rfl (s_call _ rfl cl_constraintref03_vars (.cons rfl (Wk.refl _) (.cons rfl (Wk.refl _) .nil)) (by exact (pf0 _)) (lg_constraintref03_vars_s1 fuel _ _ _ _ hr_9)) ?_
    rintro _ _ ⟨_, ⟨u16_9, rfl, rfl⟩, rfl⟩
    refine r_st ((.row u16_9 r_9.length 3 1) :: _) rfl ?_
    refine r_d rfl rfl rfl (s_assign rfl rfl) ?_
    refine r_end ?_
    refine g_inBlock ?_
    refine g_run (by kernel_rfl) [(0, .d), (1, .d), (2, .d)] rfl ?_
    refine r_d rfl rfl rfl (s_move rfl rfl) ?_
    refine r_d rfl rfl rfl (s_ar (r := ((i_5 + 1 : Nat) : Int)) rfl rfl rfl (by simp [iar]) (by omega)) ?_
    refine r_d rfl rfl rfl (s_assign rfl rfl) ?_
    refine r_end ?_
    refine g_sub [(0, .lst (l_a0.map encT)), (3, .own u16_9 (r_9.map (D.int .i64))), (4, .int .i64 ((i_5 + 1 : Nat) : Int))] (Sub.cons' rfl (Sub.cons' rfl (Sub.cons' rfl (Sub.nil _)))) ?_
    exact IH0 _ _ _ (by omega) ⟨r_9, (i_5 + 1), u16_9, rfl, rfl, rfl, (by omega), hr⟩

noncomputable def lf_constraintref14_place_L0 (k : Option (Int)) (n_a1 : Int) : List Int → Nat → Option (Int)
  | [], i_1 =>
  k
  | q_2 :: rest, i_1 =>
  (bif (q_2 == n_a1) then
  some ((i_1 : Int))
  else
  (lf_constraintref14_place_L0 k n_a1 rest (i_1 + 1)))
noncomputable def lf_constraintref14_place (l_a0 : (List Int)) (n_a1 : Int) : Option (Int) :=
  (lf_constraintref14_place_L0 (some ((-1))) n_a1 l_a0 0)

set_option maxHeartbeats 1000000 in
theorem lg_constraintref14_place (l_a0 : (List Int)) (n_a1 : Int) (res : Int) (hr : lf_constraintref14_place l_a0 n_a1 = some res) : Gives Try.prog 64 [.lst (l_a0.map (D.int .i64)), .int .i64 n_a1] (.int .i64 res) := by
  unfold lf_constraintref14_place at hr
  refine spec_env [(0, .lst (l_a0.map (D.int .i64))), (1, .int .i64 n_a1)] Try.func64 rfl rfl fun K hK => ?_
  refine g_seq ?_
  refine g_run (by kernel_rfl) [(0, .d)] rfl ?_
  refine r_d rfl rfl rfl (s_assign rfl rfl) ?_
  refine r_end ?_
  refine g_seq ?_
  refine g_seq ?_
  refine g_run (by kernel_rfl) [(0, .d)] rfl ?_
  refine r_d rfl rfl rfl (s_assign rfl rfl) ?_
  refine r_end ?_
  obtain ⟨kk0, hkk0, hr⟩ := exK (fun k => lf_constraintref14_place_L0 k n_a1 l_a0 0) hr
  refine g_len 0 rfl (asl rfl) fun hla0 => ?_
  simp only [List.length_map] at hla0
  refine g_blockJ (fun env σ => env = [] ∧ σ = [] ∧ kk0 = some res) ?_ (fun HK0 => ?_)
  ·
   rintro _ _ ⟨rfl, rfl, hr⟩
   rw [hkk0] at hr
   refine g_seq ?_
   refine g_run (by kernel_rfl) [(0, .d)] rfl ?_
   refine r_d rfl rfl rfl (s_assign rfl rfl) ?_
   refine r_end ?_
   obtain rfl := Option.some.inj hr
   refine g_ret Try.func64 _ (.cons (resTmp rfl (Wk.refl _)) .nil) ?_
   rfl
  ·
   refine g_sub [(0, .lst (l_a0.map (D.int .i64))), (1, .int .i64 n_a1), (5, .int .i64 ((0 : Nat) : Int))] (Sub.cons' rfl (Sub.cons' rfl (Sub.cons' rfl (Sub.nil _)))) ?_
   refine g_loop (fun n env σ => ∃ (i_1 : Nat), (n = l_a0.length - i_1) ∧ (env = [(0, .lst (l_a0.map (D.int .i64))), (1, .int .i64 n_a1), (5, .int .i64 (i_1 : Int))]) ∧ (σ = []) ∧ (i_1 ≤ l_a0.length) ∧ (lf_constraintref14_place_L0 kk0 n_a1 (l_a0.drop i_1) i_1 = some res)) _ ⟨0, rfl, rfl, rfl, Nat.zero_le _, hr⟩ ?_
   rintro n _ _ ⟨i_1, rfl, rfl, rfl, hi0, hr⟩ IH0
   rcases listStep l_a0 i_1 hi0 with ⟨ht0, hd0, he0⟩ | ⟨q_2, ht0, hd0, hq0, hlt0⟩
   ·
    rw [hd0, lf_constraintref14_place_L0] at hr
    refine g_seq ?_
    refine g_seq ?_
    refine g_run (by kernel_rfl) [(0, .d), (1, .d), (2, .d), (3, .d)] rfl ?_
    refine r_d rfl rfl rfl (s_move rfl rfl) ?_
    refine r_d rfl rfl rfl (s_move rfl rfl) ?_
    refine r_d rfl rfl rfl (m_len (f := (D.int .i64)) l_a0 rfl el_L_int rfl (asl rfl)) ?_
    refine r_d rfl rfl rfl (s_cmp rfl rfl rfl rfl) ?_
    refine r_end ?_
    refine g_known 9 false rfl ht0 ?_
    refine g_condF rfl ?_
    refine g_exit rfl ?_
    refine g_sub [] (Sub.nil _) ?_
    exact HK0 _ _ ⟨rfl, rfl, hr⟩
   ·
    rw [hd0, lf_constraintref14_place_L0] at hr
    refine g_seq ?_
    refine g_seq ?_
    refine g_run (by kernel_rfl) [(0, .d), (1, .d), (2, .d), (3, .d)] rfl ?_
    refine r_d rfl rfl rfl (s_move rfl rfl) ?_
    refine r_d rfl rfl rfl (s_move rfl rfl) ?_
    refine r_d rfl rfl rfl (m_len (f := (D.int .i64)) l_a0 rfl el_L_int rfl (asl rfl)) ?_
    refine r_d rfl rfl rfl (s_cmp rfl rfl rfl rfl) ?_
    refine r_end ?_
    refine g_known 9 true rfl ht0 ?_
    refine g_condT rfl ?_
    refine g_skip ?_
    refine g_seq ?_
    refine g_block ?_
    refine g_seq ?_
    refine g_run (by kernel_rfl) [(0, .d), (1, .d), (2, .d), (3, .d), (4, .d), (5, .d)] rfl ?_
    refine r_d rfl rfl rfl (s_move rfl rfl) ?_
    refine r_d rfl rfl rfl (s_move rfl rfl) ?_
    refine r_d rfl rfl rfl (m_index (f := (D.int .i64)) l_a0 rfl el_L_int rfl (asl rfl) rfl hq0 (fun _ => rfl) rfl) ?_
    refine r_d rfl rfl rfl (s_load rfl rfl (by exact ty_int) rfl) ?_
    refine r_d rfl rfl rfl (s_move rfl rfl) ?_
    refine r_d rfl rfl rfl (s_cmp rfl rfl rfl rfl) ?_
    refine r_end ?_
    refine g_sB 17 rfl hr (fun h17_2 hr => ?_) (fun h17_2 hr => ?_)
    ·
     refine g_condT rfl ?_
     refine g_seq ?_
     refine g_run (by kernel_rfl) [(0, .d), (1, .d)] rfl ?_
     refine r_d rfl rfl rfl (s_move rfl rfl) ?_
     refine r_d rfl rfl rfl (s_assign rfl rfl) ?_
     refine r_end ?_
     obtain rfl := Option.some.inj hr
     refine g_ret Try.func64 _ (.cons (resTmp rfl (Wk.refl _)) .nil) ?_
     rfl
    ·
     refine g_condF rfl ?_
     refine g_skip ?_
     refine g_inBlock ?_
     refine g_run (by kernel_rfl) [(0, .d), (1, .d), (2, .d)] rfl ?_
     refine r_d rfl rfl rfl (s_move rfl rfl) ?_
     refine r_d rfl rfl rfl (s_ar (r := ((i_1 + 1 : Nat) : Int)) rfl rfl rfl (by simp [iar]) (by omega)) ?_
     refine r_d rfl rfl rfl (s_assign rfl rfl) ?_
     refine r_end ?_
     refine g_sub [(0, .lst (l_a0.map (D.int .i64))), (1, .int .i64 n_a1), (5, .int .i64 ((i_1 + 1 : Nat) : Int))] (Sub.cons' rfl (Sub.cons' rfl (Sub.cons' rfl (Sub.nil _)))) ?_
     exact IH0 _ _ _ (by omega) ⟨(i_1 + 1), rfl, rfl, rfl, (by omega), hr⟩

noncomputable def lf_constraintref14_rename_L0 (k : ((List T)) → Option ((List T))) (rec : (List Int) → (List T) → Option ((List T))) (vars_a0 : (List Int)) : List T → (List T) → Option ((List T))
  | [], out_4 =>
  (k out_4)
  | q_8 :: rest, out_4 =>
  (bif (q_8.k == (1 : Int)) then
  ((lf_constraintref14_place vars_a0 q_8.i).bind fun r_11 =>
  ((appO 56 out_4 [(T.mk q_8.k r_11 q_8.s q_8.ar)]).bind fun l_12 =>
  (lf_constraintref14_rename_L0 k rec vars_a0 rest l_12)))
  else
  (bif (q_8.k == (2 : Int)) then
  ((rec vars_a0 q_8.ar).bind fun r_15 =>
  ((appO 56 out_4 [(T.mk q_8.k q_8.i q_8.s r_15)]).bind fun l_16 =>
  (lf_constraintref14_rename_L0 k rec vars_a0 rest l_16)))
  else
  ((appO 56 out_4 [(T.mk q_8.k q_8.i q_8.s q_8.ar)]).bind fun l_18 =>
  (lf_constraintref14_rename_L0 k rec vars_a0 rest l_18))))
noncomputable def lf_constraintref14_rename : Nat → (List Int) → (List T) → Option ((List T))
  | 0, _, _ => none
  | fuel + 1, vars_a0, l_a1 =>
    (fun (rec : (List Int) → (List T) → Option ((List T))) =>
      (lf_constraintref14_rename_L0 (fun out_7 =>
      some (out_7)) rec vars_a0 l_a1 [])) (lf_constraintref14_rename fuel)

set_option maxHeartbeats 1000000 in
theorem lgs_constraintref14_rename (fuel : Nat) (rec : (List Int) → (List T) → Option ((List T))) (IHR : ∀ (vars_a0 : (List Int)) (l_a1 : (List T)) (res : (List T)), rec vars_a0 l_a1 = some res → Gives Try.prog 48 [.lst (vars_a0.map (D.int .i64)), .lst (l_a1.map encT)] (.lst (res.map encT))) (vars_a0 : (List Int)) (l_a1 : (List T)) (res : (List T))
    (hr : (lf_constraintref14_rename_L0 (fun out_7 =>
some (out_7)) rec vars_a0 l_a1 []) = some res) : Gives Try.prog 48 [.lst (vars_a0.map (D.int .i64)), .lst (l_a1.map encT)] (.lst (res.map encT)) := by
  refine spec_env [(0, .lst (vars_a0.map (D.int .i64))), (1, .lst (l_a1.map encT))] Try.func48 rfl rfl fun K hK => ?_
  refine g_seq ?_
  refine g_run (by kernel_rfl) [(0, .w)] rfl ?_
  refine r_w rfl rfl rfl (s_nilOwn 36 4 (.inl rfl)) ?_
  rintro _ _ ⟨u4_0, rfl, rfl⟩
  refine r_end ?_
  refine g_seq ?_
  refine g_run (by kernel_rfl) [(0, .w)] rfl ?_
  refine r_w rfl rfl rfl (s_nilOwn 36 4 (.inl rfl)) ?_
  rintro _ _ ⟨u5_1, rfl, rfl⟩
  refine r_end ?_
  refine g_seq ?_
  refine g_seq ?_
  refine g_run (by kernel_rfl) [(0, .d)] rfl ?_
  refine r_d rfl rfl rfl (s_assign rfl rfl) ?_
  refine r_end ?_
  obtain ⟨kk0, hkk0, hr⟩ := exK (fun k => lf_constraintref14_rename_L0 k rec vars_a0 l_a1 []) hr
  refine g_len 1 rfl (asl rfl) fun hla0 => ?_
  simp only [List.length_map] at hla0
  refine g_blockJ (fun env σ => ∃ (out_7 : (List T)) (u_6 : Value), env = [(5, .own u_6 (out_7.map encT))] ∧ σ = [.row u_6 out_7.length 36 4] ∧ kk0 out_7 = some res) ?_ (fun HK0 => ?_)
  ·
   rintro _ _ ⟨out_7, u_6, rfl, rfl, hr⟩
   rw [hkk0] at hr
   refine g_seq ?_
   refine g_run (by kernel_rfl) [(0, .d), (1, .d)] rfl ?_
   refine r_d rfl rfl rfl (s_move rfl rfl) ?_
   refine r_d rfl rfl rfl (s_assign rfl rfl) ?_
   refine r_end ?_
   obtain rfl := Option.some.inj hr
   refine g_ret Try.func48 _ (.cons (resTmp rfl (Wk.own _ _)) .nil) ?_
   rfl
  ·
   refine g_sub [(0, .lst (vars_a0.map (D.int .i64))), (1, .lst (l_a1.map encT)), (5, .own u5_1 ([].map encT)), (6, .int .i64 ((0 : Nat) : Int))] (Sub.cons' rfl (Sub.cons' rfl (Sub.cons' rfl (Sub.cons' rfl (Sub.nil _))))) ?_
   refine g_perm [_] _ (pf0 _) ?_
   refine g_loop (fun n env σ => ∃ (out_4 : (List T)) (i_5 : Nat) (u_3 : Value), (n = l_a1.length - i_5) ∧ (env = [(0, .lst (vars_a0.map (D.int .i64))), (1, .lst (l_a1.map encT)), (5, .own u_3 (out_4.map encT)), (6, .int .i64 (i_5 : Int))]) ∧ (σ = [.row u_3 out_4.length 36 4]) ∧ (i_5 ≤ l_a1.length) ∧ (lf_constraintref14_rename_L0 kk0 rec vars_a0 (l_a1.drop i_5) out_4 = some res)) _ ⟨[], 0, u5_1, rfl, rfl, rfl, Nat.zero_le _, hr⟩ ?_
   rintro n _ _ ⟨out_4, i_5, u_3, rfl, rfl, rfl, hi0, hr⟩ IH0
   rcases listStep l_a1 i_5 hi0 with ⟨ht0, hd0, he0⟩ | ⟨q_8, ht0, hd0, hq0, hlt0⟩
   ·
    rw [hd0, lf_constraintref14_rename_L0] at hr
    refine g_seq ?_
    refine g_seq ?_
    refine g_run (by kernel_rfl) [(0, .d), (1, .d), (2, .d), (3, .d)] rfl ?_
    refine r_d rfl rfl rfl (s_move rfl rfl) ?_
    refine r_d rfl rfl rfl (s_move rfl rfl) ?_
    refine r_d rfl rfl rfl (m_len (f := encT) l_a1 rfl el_L_api_Term rfl (asl rfl)) ?_
    refine r_d rfl rfl rfl (s_cmp rfl rfl rfl rfl) ?_
    refine r_end ?_
    refine g_known 11 false rfl ht0 ?_
    refine g_condF rfl ?_
    refine g_exit rfl ?_
    refine g_sub [(5, .own u_3 (out_4.map encT))] (Sub.cons' rfl (Sub.nil _)) ?_
    exact HK0 _ _ ⟨out_4, u_3, rfl, rfl, hr⟩
   ·
    rw [hd0, lf_constraintref14_rename_L0] at hr
    refine g_seq ?_
    refine g_seq ?_
    refine g_run (by kernel_rfl) [(0, .d), (1, .d), (2, .d), (3, .d)] rfl ?_
    refine r_d rfl rfl rfl (s_move rfl rfl) ?_
    refine r_d rfl rfl rfl (s_move rfl rfl) ?_
    refine r_d rfl rfl rfl (m_len (f := encT) l_a1 rfl el_L_api_Term rfl (asl rfl)) ?_
    refine r_d rfl rfl rfl (s_cmp rfl rfl rfl rfl) ?_
    refine r_end ?_
    refine g_known 11 true rfl ht0 ?_
    refine g_condT rfl ?_
    refine g_skip ?_
    refine g_seq ?_
    refine g_block ?_
    refine g_seq ?_
    refine g_run (by kernel_rfl) [(0, .d), (1, .d), (2, .d), (3, .d), (4, .w), (5, .w)] rfl ?_
    refine r_d rfl rfl rfl (s_move rfl rfl) ?_
    refine r_d rfl rfl rfl (s_move rfl rfl) ?_
    refine r_d rfl rfl rfl (m_index (f := encT) l_a1 rfl el_L_api_Term rfl (asl rfl) rfl hq0 sz_encT rfl) ?_
    refine r_d rfl rfl rfl (s_load rfl rfl (by exact ty_api_Term) (sz_encT _)) ?_
    refine r_w rfl rfl rfl (s_alloc rfl zv_api_Term) ?_
    rintro _ _ ⟨b7_8, rfl, rfl⟩
    refine r_w01 rfl rfl rfl (t_store0 _ rfl rfl rfl (Wk.refl _) (pf0 _) (by exact ty_api_Term) (sz_encT _) rfl rfl) ?_
    refine r_st [.cell b7_8 (.agg [.int .i64 q_8.k, .int .i64 q_8.i, .str q_8.s, .lst (q_8.ar.map encT)]), .row u_3 out_4.length 36 4] (by first | (simp only [encT, fsT_eq]; done) | (simp only [encT, fsT_eq]; rfl)) ?_
    refine r_end ?_
    refine g_seq ?_
    refine g_seq ?_
    refine g_run (by kernel_rfl) [(0, .d), (1, .r)] rfl ?_
    refine r_d rfl rfl rfl (s_fieldRef rfl fl_api_Term_0 rfl) ?_
    refine r_r rfl rfl rfl (t_loadRef rfl rfl (.head _) rfl rfl (by exact ty_int) rfl) ?_
    refine r_end ?_
    refine g_block ?_
    refine g_seq ?_
    refine g_run (by kernel_rfl) [(0, .d), (1, .d)] rfl ?_
    refine r_d rfl rfl rfl (s_cmp rfl rfl rfl rfl) ?_
    refine r_d rfl rfl rfl (s_assign rfl rfl) ?_
    refine r_end ?_
    refine g_sB 20 rfl hr (fun h20_9 hr => ?_) (fun h20_9 hr => ?_)
    ·
     refine g_condT rfl ?_
     refine g_run (by kernel_rfl) [(0, .d), (1, .d), (2, .r), (3, .d), (4, .d), (5, .w)] rfl ?_
     refine r_d rfl rfl rfl (s_move rfl rfl) ?_
     refine r_d rfl rfl rfl (s_fieldRef rfl fl_api_Term_1 rfl) ?_
     refine r_r rfl rfl rfl (t_loadRef rfl rfl (.head _) rfl rfl (by exact ty_int) rfl) ?_
     obtain ⟨r_11, hr_11, hr⟩ := bindS hr
     refine r_d rfl rfl rfl (s_callD rfl cl_constraintref14_place (.cons rfl (Wk.refl _) (.cons rfl (Wk.refl _) .nil)) (lg_constraintref14_place _ _ _ hr_11)) ?_
     refine r_d rfl rfl rfl (s_fieldRef rfl fl_api_Term_1 rfl) ?_
     refine r_w01 rfl rfl rfl (t_store _ rfl rfl rfl (Wk.refl _) (pf0 _) rfl rfl (by exact ty_int) rfl rfl rfl) ?_
     refine r_end ?_
     refine g_inBlock ?_
     refine g_run (by kernel_rfl) [(0, .d), (1, .r), (2, .d), (3, .w), (4, .d)] rfl ?_
     refine r_d rfl rfl rfl (s_move rfl rfl) ?_
     refine r_r rfl rfl rfl (t_loadRef rfl rfl (.head _) rfl rfl (by exact ty_api_Term) rfl) ?_
     refine r_d rfl rfl rfl (m_lit (f := encT) [.tmp 35] [(T.mk q_8.k r_11 q_8.s q_8.ar)] rfl el_L_api_Term rfl rfl (by decide) (by decide) (.cons rfl (Wk.ofEq (by show _ = D.agg (fsT _); rw [fsT_eq] <;> rfl)) .nil) sz_encT (fun _ => rfl)) ?_
     obtain ⟨l_12, hl_12, hr⟩ := bindS hr
     refine r_w rfl rfl rfl (m_appOwn (f := encT) out_4 [(T.mk q_8.k r_11 q_8.s q_8.ar)] rfl el_L_api_Term rfl rfl (asl rfl) (pf1 _ _ _) rfl sz_encT hl_12) ?_
     rintro _ _ ⟨u37_12, rfl, rfl⟩
     refine r_d rfl rfl rfl (s_assign rfl rfl) ?_
     refine r_end ?_
     refine g_inBlock ?_
     refine g_run (by kernel_rfl) [(0, .d), (1, .d), (2, .d)] rfl ?_
     refine r_d rfl rfl rfl (s_move rfl rfl) ?_
     refine r_d rfl rfl rfl (s_ar (r := ((i_5 + 1 : Nat) : Int)) rfl rfl rfl (by simp [iar]) (by omega)) ?_
     refine r_d rfl rfl rfl (s_assign rfl rfl) ?_
     refine r_end ?_
     refine g_sub [(0, .lst (vars_a0.map (D.int .i64))), (1, .lst (l_a1.map encT)), (5, .own u37_12 (l_12.map encT)), (6, .int .i64 ((i_5 + 1 : Nat) : Int))] (Sub.cons' rfl (Sub.cons' rfl (Sub.cons' rfl (Sub.cons' rfl (Sub.nil _))))) ?_
     refine g_perm [_] _ (pf0 _) ?_
     exact IH0 _ _ _ (by omega) ⟨l_12, (i_5 + 1), u37_12, rfl, rfl, rfl, (by omega), hr⟩
    ·
     refine g_condF rfl ?_
     refine g_seq ?_
     refine g_run (by kernel_rfl) [(0, .d), (1, .d)] rfl ?_
     refine r_d rfl rfl rfl (s_cmp rfl rfl rfl rfl) ?_
     refine r_d rfl rfl rfl (s_assign rfl rfl) ?_
     refine r_end ?_
     refine g_sB 27 rfl hr (fun h27_13 hr => ?_) (fun h27_13 hr => ?_)
     ·
      refine g_condT rfl ?_
      refine g_run (by kernel_rfl) [(0, .d), (1, .d), (2, .r), (3, .d), (4, .d), (5, .w)] rfl ?_
      refine r_d rfl rfl rfl (s_move rfl rfl) ?_
      refine r_d rfl rfl rfl (s_fieldRef rfl fl_api_Term_3 rfl) ?_
      refine r_r rfl rfl rfl (t_loadRef rfl rfl (.head _) rfl rfl (by exact ty_L_api_Term) rfl) ?_
      obtain ⟨r_15, hr_15, hr⟩ := bindS hr
      refine r_d rfl rfl rfl (s_callD rfl cl_constraintref14_rename (.cons rfl (Wk.refl _) (.cons rfl (Wk.refl _) .nil)) (IHR _ _ _ hr_15)) ?_
      refine r_d rfl rfl rfl (s_fieldRef rfl fl_api_Term_3 rfl) ?_
      refine r_w01 rfl rfl rfl (t_store _ rfl rfl rfl (Wk.refl _) (pf0 _) rfl rfl (by exact ty_L_api_Term) rfl rfl rfl) ?_
      refine r_end ?_
      refine g_inBlock ?_
      refine g_run (by kernel_rfl) [(0, .d), (1, .r), (2, .d), (3, .w), (4, .d)] rfl ?_
      refine r_d rfl rfl rfl (s_move rfl rfl) ?_
      refine r_r rfl rfl rfl (t_loadRef rfl rfl (.head _) rfl rfl (by exact ty_api_Term) rfl) ?_
      refine r_d rfl rfl rfl (m_lit (f := encT) [.tmp 35] [(T.mk q_8.k q_8.i q_8.s r_15)] rfl el_L_api_Term rfl rfl (by decide) (by decide) (.cons rfl (Wk.ofEq (by show _ = D.agg (fsT _); rw [fsT_eq] <;> rfl)) .nil) sz_encT (fun _ => rfl)) ?_
      obtain ⟨l_16, hl_16, hr⟩ := bindS hr
      refine r_w rfl rfl rfl (m_appOwn (f := encT) out_4 [(T.mk q_8.k q_8.i q_8.s r_15)] rfl el_L_api_Term rfl rfl (asl rfl) (pf1 _ _ _) rfl sz_encT hl_16) ?_
      rintro _ _ ⟨u37_16, rfl, rfl⟩
      refine r_d rfl rfl rfl (s_assign rfl rfl) ?_
      refine r_end ?_
      refine g_inBlock ?_
      refine g_run (by kernel_rfl) [(0, .d), (1, .d), (2, .d)] rfl ?_
      refine r_d rfl rfl rfl (s_move rfl rfl) ?_
      refine r_d rfl rfl rfl (s_ar (r := ((i_5 + 1 : Nat) : Int)) rfl rfl rfl (by simp [iar]) (by omega)) ?_
      refine r_d rfl rfl rfl (s_assign rfl rfl) ?_
      refine r_end ?_
      refine g_sub [(0, .lst (vars_a0.map (D.int .i64))), (1, .lst (l_a1.map encT)), (5, .own u37_16 (l_16.map encT)), (6, .int .i64 ((i_5 + 1 : Nat) : Int))] (Sub.cons' rfl (Sub.cons' rfl (Sub.cons' rfl (Sub.cons' rfl (Sub.nil _))))) ?_
      refine g_perm [_] _ (pf0 _) ?_
      exact IH0 _ _ _ (by omega) ⟨l_16, (i_5 + 1), u37_16, rfl, rfl, rfl, (by omega), hr⟩
     ·
      refine g_condF rfl ?_
      refine g_skip ?_
      refine g_inBlock ?_
      refine g_run (by kernel_rfl) [(0, .d), (1, .r), (2, .d), (3, .w), (4, .d)] rfl ?_
      refine r_d rfl rfl rfl (s_move rfl rfl) ?_
      refine r_r rfl rfl rfl (t_loadRef rfl rfl (.head _) rfl rfl (by exact ty_api_Term) rfl) ?_
      refine r_d rfl rfl rfl (m_lit (f := encT) [.tmp 35] [(T.mk q_8.k q_8.i q_8.s q_8.ar)] rfl el_L_api_Term rfl rfl (by decide) (by decide) (.cons rfl (Wk.ofEq (by show _ = D.agg (fsT _); rw [fsT_eq] <;> rfl)) .nil) sz_encT (fun _ => rfl)) ?_
      obtain ⟨l_18, hl_18, hr⟩ := bindS hr
      refine r_w rfl rfl rfl (m_appOwn (f := encT) out_4 [(T.mk q_8.k q_8.i q_8.s q_8.ar)] rfl el_L_api_Term rfl rfl (asl rfl) (pf1 _ _ _) rfl sz_encT hl_18) ?_
      rintro _ _ ⟨u37_18, rfl, rfl⟩
      refine r_d rfl rfl rfl (s_assign rfl rfl) ?_
      refine r_end ?_
      refine g_inBlock ?_
      refine g_run (by kernel_rfl) [(0, .d), (1, .d), (2, .d)] rfl ?_
      refine r_d rfl rfl rfl (s_move rfl rfl) ?_
      refine r_d rfl rfl rfl (s_ar (r := ((i_5 + 1 : Nat) : Int)) rfl rfl rfl (by simp [iar]) (by omega)) ?_
      refine r_d rfl rfl rfl (s_assign rfl rfl) ?_
      refine r_end ?_
      refine g_sub [(0, .lst (vars_a0.map (D.int .i64))), (1, .lst (l_a1.map encT)), (5, .own u37_18 (l_18.map encT)), (6, .int .i64 ((i_5 + 1 : Nat) : Int))] (Sub.cons' rfl (Sub.cons' rfl (Sub.cons' rfl (Sub.cons' rfl (Sub.nil _))))) ?_
      refine g_perm [_] _ (pf0 _) ?_
      exact IH0 _ _ _ (by omega) ⟨l_18, (i_5 + 1), u37_18, rfl, rfl, rfl, (by omega), hr⟩
theorem lg_constraintref14_rename : ∀ (fuel : Nat) (vars_a0 : (List Int)) (l_a1 : (List T)) (res : (List T)), lf_constraintref14_rename fuel vars_a0 l_a1 = some res → Gives Try.prog 48 [.lst (vars_a0.map (D.int .i64)), .lst (l_a1.map encT)] (.lst (res.map encT))
  | 0, _, _, _, h => by cases h
  | fuel + 1, vars_a0, l_a1, res, h => lgs_constraintref14_rename fuel (lf_constraintref14_rename fuel) (lg_constraintref14_rename fuel) vars_a0 l_a1 res h

noncomputable def lf_constraintref14_atoms_L0 (k : ((List At)) → Option ((List At))) (fuel : Nat) (vars_a0 : (List Int)) : List At → (List At) → Option ((List At))
  | [], out_4 =>
  (k out_4)
  | q_8 :: rest, out_4 =>
  ((lf_constraintref14_rename fuel vars_a0 q_8.ts).bind fun r_9 =>
  ((appO 40 out_4 [(⟨q_8.n, r_9⟩ : At)]).bind fun l_10 =>
  (lf_constraintref14_atoms_L0 k fuel vars_a0 rest l_10)))
noncomputable def lf_constraintref14_atoms (fuel : Nat) (vars_a0 : (List Int)) (l_a1 : (List At)) : Option ((List At)) :=
  (lf_constraintref14_atoms_L0 (fun out_7 =>
  some (out_7)) fuel vars_a0 l_a1 [])

set_option maxHeartbeats 1000000 in
theorem lg_constraintref14_atoms (fuel : Nat) (vars_a0 : (List Int)) (l_a1 : (List At)) (res : (List At)) (hr : lf_constraintref14_atoms fuel vars_a0 l_a1 = some res) : Gives Try.prog 29 [.lst (vars_a0.map (D.int .i64)), .lst (l_a1.map encA)] (.lst (res.map encA)) := by
  unfold lf_constraintref14_atoms at hr
  refine spec_env [(0, .lst (vars_a0.map (D.int .i64))), (1, .lst (l_a1.map encA))] Try.func29 rfl rfl fun K hK => ?_
  refine g_seq ?_
  refine g_run (by kernel_rfl) [(0, .w)] rfl ?_
  refine r_w rfl rfl rfl (s_nilOwn 33 2 (.inl rfl)) ?_
  rintro _ _ ⟨u4_0, rfl, rfl⟩
  refine r_end ?_
  refine g_seq ?_
  refine g_run (by kernel_rfl) [(0, .w)] rfl ?_
  refine r_w rfl rfl rfl (s_nilOwn 33 2 (.inl rfl)) ?_
  rintro _ _ ⟨u5_1, rfl, rfl⟩
  refine r_end ?_
  refine g_seq ?_
  refine g_seq ?_
  refine g_run (by kernel_rfl) [(0, .d)] rfl ?_
  refine r_d rfl rfl rfl (s_assign rfl rfl) ?_
  refine r_end ?_
  obtain ⟨kk0, hkk0, hr⟩ := exK (fun k => lf_constraintref14_atoms_L0 k fuel vars_a0 l_a1 []) hr
  refine g_len 1 rfl (asl rfl) fun hla0 => ?_
  simp only [List.length_map] at hla0
  refine g_blockJ (fun env σ => ∃ (out_7 : (List At)) (u_6 : Value), env = [(5, .own u_6 (out_7.map encA))] ∧ σ = [.row u_6 out_7.length 33 2] ∧ kk0 out_7 = some res) ?_ (fun HK0 => ?_)
  ·
   rintro _ _ ⟨out_7, u_6, rfl, rfl, hr⟩
   rw [hkk0] at hr
   refine g_seq ?_
   refine g_run (by kernel_rfl) [(0, .d), (1, .d)] rfl ?_
   refine r_d rfl rfl rfl (s_move rfl rfl) ?_
   refine r_d rfl rfl rfl (s_assign rfl rfl) ?_
   refine r_end ?_
   obtain rfl := Option.some.inj hr
   refine g_ret Try.func29 _ (.cons (resTmp rfl (Wk.own _ _)) .nil) ?_
   rfl
  ·
   refine g_sub [(0, .lst (vars_a0.map (D.int .i64))), (1, .lst (l_a1.map encA)), (5, .own u5_1 ([].map encA)), (6, .int .i64 ((0 : Nat) : Int))] (Sub.cons' rfl (Sub.cons' rfl (Sub.cons' rfl (Sub.cons' rfl (Sub.nil _))))) ?_
   refine g_perm [_] _ (pf0 _) ?_
   refine g_loop (fun n env σ => ∃ (out_4 : (List At)) (i_5 : Nat) (u_3 : Value), (n = l_a1.length - i_5) ∧ (env = [(0, .lst (vars_a0.map (D.int .i64))), (1, .lst (l_a1.map encA)), (5, .own u_3 (out_4.map encA)), (6, .int .i64 (i_5 : Int))]) ∧ (σ = [.row u_3 out_4.length 33 2]) ∧ (i_5 ≤ l_a1.length) ∧ (lf_constraintref14_atoms_L0 kk0 fuel vars_a0 (l_a1.drop i_5) out_4 = some res)) _ ⟨[], 0, u5_1, rfl, rfl, rfl, Nat.zero_le _, hr⟩ ?_
   rintro n _ _ ⟨out_4, i_5, u_3, rfl, rfl, rfl, hi0, hr⟩ IH0
   rcases listStep l_a1 i_5 hi0 with ⟨ht0, hd0, he0⟩ | ⟨q_8, ht0, hd0, hq0, hlt0⟩
   ·
    rw [hd0, lf_constraintref14_atoms_L0] at hr
    refine g_seq ?_
    refine g_seq ?_
    refine g_run (by kernel_rfl) [(0, .d), (1, .d), (2, .d), (3, .d)] rfl ?_
    refine r_d rfl rfl rfl (s_move rfl rfl) ?_
    refine r_d rfl rfl rfl (s_move rfl rfl) ?_
    refine r_d rfl rfl rfl (m_len (f := encA) l_a1 rfl el_L_api_Atom rfl (asl rfl)) ?_
    refine r_d rfl rfl rfl (s_cmp rfl rfl rfl rfl) ?_
    refine r_end ?_
    refine g_known 10 false rfl ht0 ?_
    refine g_condF rfl ?_
    refine g_exit rfl ?_
    refine g_sub [(5, .own u_3 (out_4.map encA))] (Sub.cons' rfl (Sub.nil _)) ?_
    exact HK0 _ _ ⟨out_4, u_3, rfl, rfl, hr⟩
   ·
    rw [hd0, lf_constraintref14_atoms_L0] at hr
    refine g_seq ?_
    refine g_seq ?_
    refine g_run (by kernel_rfl) [(0, .d), (1, .d), (2, .d), (3, .d)] rfl ?_
    refine r_d rfl rfl rfl (s_move rfl rfl) ?_
    refine r_d rfl rfl rfl (s_move rfl rfl) ?_
    refine r_d rfl rfl rfl (m_len (f := encA) l_a1 rfl el_L_api_Atom rfl (asl rfl)) ?_
    refine r_d rfl rfl rfl (s_cmp rfl rfl rfl rfl) ?_
    refine r_end ?_
    refine g_known 10 true rfl ht0 ?_
    refine g_condT rfl ?_
    refine g_skip ?_
    refine g_seq ?_
    refine g_block ?_
    refine g_any (by kernel_rfl) (by kernel_rfl) [(0, .d), (1, .d), (2, .d), (3, .d), (4, .d), (5, .d), (6, .d), (7, .d), (8, .d), (9, .d), (10, .d), (11, .d), (12, .d), (13, .d), (14, .d), (15, .w), (16, .d)] (by kernel_rfl) ?_
    refine r_d rfl rfl rfl (s_move rfl rfl) ?_
    refine r_d rfl rfl rfl (s_move rfl rfl) ?_
    refine r_d rfl rfl rfl (s_move rfl rfl) ?_
    refine r_d rfl rfl rfl (m_index (f := encA) l_a1 rfl el_L_api_Atom rfl (asl rfl) rfl hq0 sz_encA rfl) ?_
    refine r_d rfl rfl rfl (s_fieldAddr rfl fl_api_Atom_0 rfl rfl rfl rfl) ?_
    refine r_d rfl rfl rfl (s_load rfl rfl (by exact ty_string) rfl) ?_
    refine r_d rfl rfl rfl (s_move rfl rfl) ?_
    refine r_d rfl rfl rfl (s_move rfl rfl) ?_
    refine r_d rfl rfl rfl (s_move rfl rfl) ?_
    refine r_d rfl rfl rfl (m_index (f := encA) l_a1 rfl el_L_api_Atom rfl (asl rfl) rfl hq0 sz_encA rfl) ?_
    refine r_d rfl rfl rfl (s_fieldAddr rfl fl_api_Atom_1 rfl rfl rfl rfl) ?_
    refine r_d rfl rfl rfl (s_load rfl rfl (by exact ty_L_api_Term) rfl) ?_
    obtain ⟨r_9, hr_9, hr⟩ := bindS hr
    refine r_d rfl rfl rfl (s_callD rfl cl_constraintref14_rename (.cons rfl (Wk.refl _) (.cons rfl (Wk.refl _) .nil)) (lg_constraintref14_rename fuel _ _ _ hr_9)) ?_
    refine r_d rfl rfl rfl (s_build rfl bt_api_Atom (.cons rfl (Wk.refl _) (.cons rfl (Wk.refl _) .nil)) (.cons rfl rfl rfl (.cons rfl rfl rfl (.nil _)))) ?_
    refine r_d rfl rfl rfl (m_lit (f := encA) [.tmp 26] [(⟨q_8.n, r_9⟩ : At)] rfl el_L_api_Atom rfl rfl (by decide) (by decide) (.cons rfl (Wk.refl _) .nil) sz_encA (fun _ => rfl)) ?_
    obtain ⟨l_10, hl_10, hr⟩ := bindS hr
    refine r_w rfl rfl rfl (m_appOwn (f := encA) out_4 [(⟨q_8.n, r_9⟩ : At)] rfl el_L_api_Atom rfl rfl (asl rfl) (pf0 _) rfl sz_encA hl_10) ?_
    rintro _ _ ⟨u28_10, rfl, rfl⟩
    refine r_d rfl rfl rfl (s_assign rfl rfl) ?_
    refine r_end ?_
    refine g_inBlock ?_
    refine g_run (by kernel_rfl) [(0, .d), (1, .d), (2, .d)] rfl ?_
    refine r_d rfl rfl rfl (s_move rfl rfl) ?_
    refine r_d rfl rfl rfl (s_ar (r := ((i_5 + 1 : Nat) : Int)) rfl rfl rfl (by simp [iar]) (by omega)) ?_
    refine r_d rfl rfl rfl (s_assign rfl rfl) ?_
    refine r_end ?_
    refine g_sub [(0, .lst (vars_a0.map (D.int .i64))), (1, .lst (l_a1.map encA)), (5, .own u28_10 (l_10.map encA)), (6, .int .i64 ((i_5 + 1 : Nat) : Int))] (Sub.cons' rfl (Sub.cons' rfl (Sub.cons' rfl (Sub.cons' rfl (Sub.nil _))))) ?_
    exact IH0 _ _ _ (by omega) ⟨l_10, (i_5 + 1), u28_10, rfl, rfl, rfl, (by omega), hr⟩

noncomputable def lf_constraintref14_RenameGoals_L0 (k : ((List Gl)) → Option ((List Gl))) (fuel : Nat) (vars_a0 : (List Int)) : List Gl → (List Gl) → Option ((List Gl))
  | [], out_4 =>
  (k out_4)
  | q_8 :: rest, out_4 =>
  ((lf_constraintref14_rename fuel vars_a0 q_8.ts).bind fun r_9 =>
  ((appO 48 out_4 [(⟨q_8.op, q_8.n, r_9⟩ : Gl)]).bind fun l_10 =>
  (lf_constraintref14_RenameGoals_L0 k fuel vars_a0 rest l_10)))
noncomputable def lf_constraintref14_RenameGoals (fuel : Nat) (vars_a0 : (List Int)) (l_a1 : (List Gl)) : Option ((List Gl)) :=
  (lf_constraintref14_RenameGoals_L0 (fun out_7 =>
  some (out_7)) fuel vars_a0 l_a1 [])

set_option maxHeartbeats 1000000 in
theorem lg_constraintref14_RenameGoals (fuel : Nat) (vars_a0 : (List Int)) (l_a1 : (List Gl)) (res : (List Gl)) (hr : lf_constraintref14_RenameGoals fuel vars_a0 l_a1 = some res) : Gives Try.prog 30 [.lst (vars_a0.map (D.int .i64)), .lst (l_a1.map encG)] (.lst (res.map encG)) := by
  unfold lf_constraintref14_RenameGoals at hr
  refine spec_env [(0, .lst (vars_a0.map (D.int .i64))), (1, .lst (l_a1.map encG))] Try.func30 rfl rfl fun K hK => ?_
  refine g_seq ?_
  refine g_run (by kernel_rfl) [(0, .w)] rfl ?_
  refine r_w rfl rfl rfl (s_nilOwn 45 3 (.inl rfl)) ?_
  rintro _ _ ⟨u4_0, rfl, rfl⟩
  refine r_end ?_
  refine g_seq ?_
  refine g_run (by kernel_rfl) [(0, .w)] rfl ?_
  refine r_w rfl rfl rfl (s_nilOwn 45 3 (.inl rfl)) ?_
  rintro _ _ ⟨u5_1, rfl, rfl⟩
  refine r_end ?_
  refine g_seq ?_
  refine g_seq ?_
  refine g_run (by kernel_rfl) [(0, .d)] rfl ?_
  refine r_d rfl rfl rfl (s_assign rfl rfl) ?_
  refine r_end ?_
  obtain ⟨kk0, hkk0, hr⟩ := exK (fun k => lf_constraintref14_RenameGoals_L0 k fuel vars_a0 l_a1 []) hr
  refine g_len 1 rfl (asl rfl) fun hla0 => ?_
  simp only [List.length_map] at hla0
  refine g_blockJ (fun env σ => ∃ (out_7 : (List Gl)) (u_6 : Value), env = [(5, .own u_6 (out_7.map encG))] ∧ σ = [.row u_6 out_7.length 45 3] ∧ kk0 out_7 = some res) ?_ (fun HK0 => ?_)
  ·
   rintro _ _ ⟨out_7, u_6, rfl, rfl, hr⟩
   rw [hkk0] at hr
   refine g_seq ?_
   refine g_run (by kernel_rfl) [(0, .d), (1, .d)] rfl ?_
   refine r_d rfl rfl rfl (s_move rfl rfl) ?_
   refine r_d rfl rfl rfl (s_assign rfl rfl) ?_
   refine r_end ?_
   obtain rfl := Option.some.inj hr
   refine g_ret Try.func30 _ (.cons (resTmp rfl (Wk.own _ _)) .nil) ?_
   rfl
  ·
   refine g_sub [(0, .lst (vars_a0.map (D.int .i64))), (1, .lst (l_a1.map encG)), (5, .own u5_1 ([].map encG)), (6, .int .i64 ((0 : Nat) : Int))] (Sub.cons' rfl (Sub.cons' rfl (Sub.cons' rfl (Sub.cons' rfl (Sub.nil _))))) ?_
   refine g_perm [_] _ (pf0 _) ?_
   refine g_loop (fun n env σ => ∃ (out_4 : (List Gl)) (i_5 : Nat) (u_3 : Value), (n = l_a1.length - i_5) ∧ (env = [(0, .lst (vars_a0.map (D.int .i64))), (1, .lst (l_a1.map encG)), (5, .own u_3 (out_4.map encG)), (6, .int .i64 (i_5 : Int))]) ∧ (σ = [.row u_3 out_4.length 45 3]) ∧ (i_5 ≤ l_a1.length) ∧ (lf_constraintref14_RenameGoals_L0 kk0 fuel vars_a0 (l_a1.drop i_5) out_4 = some res)) _ ⟨[], 0, u5_1, rfl, rfl, rfl, Nat.zero_le _, hr⟩ ?_
   rintro n _ _ ⟨out_4, i_5, u_3, rfl, rfl, rfl, hi0, hr⟩ IH0
   rcases listStep l_a1 i_5 hi0 with ⟨ht0, hd0, he0⟩ | ⟨q_8, ht0, hd0, hq0, hlt0⟩
   ·
    rw [hd0, lf_constraintref14_RenameGoals_L0] at hr
    refine g_seq ?_
    refine g_seq ?_
    refine g_run (by kernel_rfl) [(0, .d), (1, .d), (2, .d), (3, .d)] rfl ?_
    refine r_d rfl rfl rfl (s_move rfl rfl) ?_
    refine r_d rfl rfl rfl (s_move rfl rfl) ?_
    refine r_d rfl rfl rfl (m_len (f := encG) l_a1 rfl el_L_api_Goal rfl (asl rfl)) ?_
    refine r_d rfl rfl rfl (s_cmp rfl rfl rfl rfl) ?_
    refine r_end ?_
    refine g_known 10 false rfl ht0 ?_
    refine g_condF rfl ?_
    refine g_exit rfl ?_
    refine g_sub [(5, .own u_3 (out_4.map encG))] (Sub.cons' rfl (Sub.nil _)) ?_
    exact HK0 _ _ ⟨out_4, u_3, rfl, rfl, hr⟩
   ·
    rw [hd0, lf_constraintref14_RenameGoals_L0] at hr
    refine g_seq ?_
    refine g_seq ?_
    refine g_run (by kernel_rfl) [(0, .d), (1, .d), (2, .d), (3, .d)] rfl ?_
    refine r_d rfl rfl rfl (s_move rfl rfl) ?_
    refine r_d rfl rfl rfl (s_move rfl rfl) ?_
    refine r_d rfl rfl rfl (m_len (f := encG) l_a1 rfl el_L_api_Goal rfl (asl rfl)) ?_
    refine r_d rfl rfl rfl (s_cmp rfl rfl rfl rfl) ?_
    refine r_end ?_
    refine g_known 10 true rfl ht0 ?_
    refine g_condT rfl ?_
    refine g_skip ?_
    refine g_seq ?_
    refine g_block ?_
    refine g_any (by kernel_rfl) (by kernel_rfl) [(0, .d), (1, .d), (2, .d), (3, .d), (4, .d), (5, .d), (6, .d), (7, .d), (8, .d), (9, .d), (10, .d), (11, .d), (12, .d), (13, .d), (14, .d), (15, .d), (16, .d), (17, .d), (18, .d), (19, .d), (20, .w), (21, .d)] (by kernel_rfl) ?_
    refine r_d rfl rfl rfl (s_move rfl rfl) ?_
    refine r_d rfl rfl rfl (s_move rfl rfl) ?_
    refine r_d rfl rfl rfl (s_move rfl rfl) ?_
    refine r_d rfl rfl rfl (m_index (f := encG) l_a1 rfl el_L_api_Goal rfl (asl rfl) rfl hq0 sz_encG rfl) ?_
    refine r_d rfl rfl rfl (s_fieldAddr rfl fl_api_Goal_0 rfl rfl rfl rfl) ?_
    refine r_d rfl rfl rfl (s_load rfl rfl (by exact ty_int) rfl) ?_
    refine r_d rfl rfl rfl (s_move rfl rfl) ?_
    refine r_d rfl rfl rfl (s_move rfl rfl) ?_
    refine r_d rfl rfl rfl (m_index (f := encG) l_a1 rfl el_L_api_Goal rfl (asl rfl) rfl hq0 sz_encG rfl) ?_
    refine r_d rfl rfl rfl (s_fieldAddr rfl fl_api_Goal_1 rfl rfl rfl rfl) ?_
    refine r_d rfl rfl rfl (s_load rfl rfl (by exact ty_string) rfl) ?_
    refine r_d rfl rfl rfl (s_move rfl rfl) ?_
    refine r_d rfl rfl rfl (s_move rfl rfl) ?_
    refine r_d rfl rfl rfl (s_move rfl rfl) ?_
    refine r_d rfl rfl rfl (m_index (f := encG) l_a1 rfl el_L_api_Goal rfl (asl rfl) rfl hq0 sz_encG rfl) ?_
    refine r_d rfl rfl rfl (s_fieldAddr rfl fl_api_Goal_2 rfl rfl rfl rfl) ?_
    refine r_d rfl rfl rfl (s_load rfl rfl (by exact ty_L_api_Term) rfl) ?_
    obtain ⟨r_9, hr_9, hr⟩ := bindS hr
    refine r_d rfl rfl rfl (s_callD rfl cl_constraintref14_rename (.cons rfl (Wk.refl _) (.cons rfl (Wk.refl _) .nil)) (lg_constraintref14_rename fuel _ _ _ hr_9)) ?_
    refine r_d rfl rfl rfl (s_build rfl bt_api_Goal (.cons rfl (Wk.refl _) (.cons rfl (Wk.refl _) (.cons rfl (Wk.refl _) .nil))) (.cons rfl rfl rfl (.cons rfl rfl rfl (.cons rfl rfl rfl (.nil _))))) ?_
    refine r_d rfl rfl rfl (m_lit (f := encG) [.tmp 31] [(⟨q_8.op, q_8.n, r_9⟩ : Gl)] rfl el_L_api_Goal rfl rfl (by decide) (by decide) (.cons rfl (Wk.refl _) .nil) sz_encG (fun _ => rfl)) ?_
    obtain ⟨l_10, hl_10, hr⟩ := bindS hr
    refine r_w rfl rfl rfl (m_appOwn (f := encG) out_4 [(⟨q_8.op, q_8.n, r_9⟩ : Gl)] rfl el_L_api_Goal rfl rfl (asl rfl) (pf0 _) rfl sz_encG hl_10) ?_
    rintro _ _ ⟨u33_10, rfl, rfl⟩
    refine r_d rfl rfl rfl (s_assign rfl rfl) ?_
    refine r_end ?_
    refine g_inBlock ?_
    refine g_run (by kernel_rfl) [(0, .d), (1, .d), (2, .d)] rfl ?_
    refine r_d rfl rfl rfl (s_move rfl rfl) ?_
    refine r_d rfl rfl rfl (s_ar (r := ((i_5 + 1 : Nat) : Int)) rfl rfl rfl (by simp [iar]) (by omega)) ?_
    refine r_d rfl rfl rfl (s_assign rfl rfl) ?_
    refine r_end ?_
    refine g_sub [(0, .lst (vars_a0.map (D.int .i64))), (1, .lst (l_a1.map encG)), (5, .own u33_10 (l_10.map encG)), (6, .int .i64 ((i_5 + 1 : Nat) : Int))] (Sub.cons' rfl (Sub.cons' rfl (Sub.cons' rfl (Sub.cons' rfl (Sub.nil _))))) ?_
    exact IH0 _ _ _ (by omega) ⟨l_10, (i_5 + 1), u33_10, rfl, rfl, rfl, (by omega), hr⟩

noncomputable def lf_constraintref14_Number (fuel : Nat) (r_a0 : S_api_Rule) : Option (S_api_Rule) :=
  ((lf_constraintref14_Terms r_a0).bind fun r_2 =>
  ((lf_constraintref03_VarsOf fuel r_2).bind fun r_3 =>
  ((lf_constraintref14_atoms fuel r_3 r_a0.f1_Keep).bind fun r_4 =>
  ((lf_constraintref14_atoms fuel r_3 r_a0.f2_Remove).bind fun r_5 =>
  ((lf_constraintref14_RenameGoals fuel r_3 r_a0.f3_Guard).bind fun r_6 =>
  ((lf_constraintref14_RenameGoals fuel r_3 r_a0.f4_Body).bind fun r_7 =>
  some ((⟨r_a0.f0_Name, r_4, r_5, r_6, r_7, (r_3.length : Int)⟩ : S_api_Rule))))))))

set_option maxHeartbeats 1000000 in
theorem lg_constraintref14_Number (fuel : Nat) (r_a0 : S_api_Rule) (res : S_api_Rule) (hr : lf_constraintref14_Number fuel r_a0 = some res) : Gives Try.prog 9 [enc_S_api_Rule r_a0] (enc_S_api_Rule res) := by
  unfold lf_constraintref14_Number at hr
  refine spec_env [(0, enc_S_api_Rule r_a0)] Try.func9 rfl rfl fun K hK => ?_
  refine g_seq ?_
  refine g_run (by kernel_rfl) [(0, .d), (1, .w)] rfl ?_
  refine r_d rfl rfl rfl (s_box rfl rfl rfl) ?_
  refine r_w rfl rfl rfl (s_alloc rfl zv_api_Rule) ?_
  rintro _ _ ⟨b2_0, rfl, rfl⟩
  refine r_end ?_
  refine g_seq ?_
  refine g_run (by kernel_rfl) [(0, .d), (1, .d), (2, .d), (3, .d)] rfl ?_
  refine r_d rfl rfl rfl (s_load rfl rfl (by exact ty_api_Rule) (sz_S_api_Rule _)) ?_
  obtain ⟨r_2, hr_2, hr⟩ := bindS hr
  refine r_d rfl rfl rfl (s_callD rfl cl_constraintref14_Terms (.cons rfl (Wk.refl _) .nil) (lg_constraintref14_Terms _ _ hr_2)) ?_
  obtain ⟨r_3, hr_3, hr⟩ := bindS hr
  refine r_d rfl rfl rfl (s_callD rfl cl_constraintref03_VarsOf (.cons rfl (Wk.refl _) .nil) (lg_constraintref03_VarsOf fuel _ _ hr_3)) ?_
  refine r_d rfl rfl rfl (s_assign rfl rfl) ?_
  refine r_end ?_
  refine g_seq ?_
  refine g_any (by kernel_rfl) (by kernel_rfl) [(0, .d), (1, .d), (2, .d), (3, .d), (4, .d), (5, .d), (6, .d), (7, .d), (8, .d), (9, .d), (10, .d), (11, .d), (12, .d), (13, .d), (14, .d), (15, .d), (16, .d), (17, .d), (18, .d), (19, .d), (20, .d), (21, .w)] (by kernel_rfl) ?_
  refine r_d rfl rfl rfl (s_fieldAddr rfl fl_api_Rule_0 rfl rfl rfl rfl) ?_
  refine r_d rfl rfl rfl (s_load rfl rfl (by exact ty_string) rfl) ?_
  refine r_d rfl rfl rfl (s_move rfl rfl) ?_
  refine r_d rfl rfl rfl (s_fieldAddr rfl fl_api_Rule_1 rfl rfl rfl rfl) ?_
  refine r_d rfl rfl rfl (s_load rfl rfl (by exact ty_L_api_Atom) rfl) ?_
  obtain ⟨r_4, hr_4, hr⟩ := bindS hr
  refine r_d rfl rfl rfl (s_callD rfl cl_constraintref14_atoms (.cons rfl (Wk.refl _) (.cons rfl (Wk.refl _) .nil)) (lg_constraintref14_atoms fuel _ _ _ hr_4)) ?_
  refine r_d rfl rfl rfl (s_move rfl rfl) ?_
  refine r_d rfl rfl rfl (s_fieldAddr rfl fl_api_Rule_2 rfl rfl rfl rfl) ?_
  refine r_d rfl rfl rfl (s_load rfl rfl (by exact ty_L_api_Atom) rfl) ?_
  obtain ⟨r_5, hr_5, hr⟩ := bindS hr
  refine r_d rfl rfl rfl (s_callD rfl cl_constraintref14_atoms (.cons rfl (Wk.refl _) (.cons rfl (Wk.refl _) .nil)) (lg_constraintref14_atoms fuel _ _ _ hr_5)) ?_
  refine r_d rfl rfl rfl (s_move rfl rfl) ?_
  refine r_d rfl rfl rfl (s_fieldAddr rfl fl_api_Rule_3 rfl rfl rfl rfl) ?_
  refine r_d rfl rfl rfl (s_load rfl rfl (by exact ty_L_api_Goal) rfl) ?_
  obtain ⟨r_6, hr_6, hr⟩ := bindS hr
  refine r_d rfl rfl rfl (s_callD rfl cl_constraintref14_RenameGoals (.cons rfl (Wk.refl _) (.cons rfl (Wk.refl _) .nil)) (lg_constraintref14_RenameGoals fuel _ _ _ hr_6)) ?_
  refine r_d rfl rfl rfl (s_move rfl rfl) ?_
  refine r_d rfl rfl rfl (s_fieldAddr rfl fl_api_Rule_4 rfl rfl rfl rfl) ?_
  refine r_d rfl rfl rfl (s_load rfl rfl (by exact ty_L_api_Goal) rfl) ?_
  obtain ⟨r_7, hr_7, hr⟩ := bindS hr
  refine r_d rfl rfl rfl (s_callD rfl cl_constraintref14_RenameGoals (.cons rfl (Wk.refl _) (.cons rfl (Wk.refl _) .nil)) (lg_constraintref14_RenameGoals fuel _ _ _ hr_7)) ?_
  refine r_d rfl rfl rfl (s_move rfl rfl) ?_
  refine r_d rfl rfl rfl (m_len (f := (D.int .i64)) r_3 rfl el_L_int rfl (asl rfl)) ?_
  refine r_d rfl rfl rfl (s_build rfl bt_api_Rule (.cons rfl (Wk.refl _) (.cons rfl (Wk.refl _) (.cons rfl (Wk.refl _) (.cons rfl (Wk.refl _) (.cons rfl (Wk.refl _) (.cons rfl (Wk.refl _) .nil)))))) (.cons rfl rfl rfl (.cons rfl rfl rfl (.cons rfl rfl rfl (.cons rfl rfl rfl (.cons rfl rfl rfl (.cons rfl rfl rfl (.nil _)))))))) ?_
  refine r_w01 rfl rfl rfl (t_store0 _ rfl rfl rfl (Wk.refl _) (pf0 _) (by exact ty_api_Rule) rfl rfl rfl) ?_
  refine r_end ?_
  obtain rfl := Option.some.inj hr
  refine g_ret Try.func9 _ (.cons (resRef rfl (.head _) (by exact ty_api_Rule) rfl (Wk.refl _)) .nil) ?_
  rfl

noncomputable def lf_constraintref03_SameAtoms_L0 (k : Option (Bool)) (b_a1 : (List At)) : List At → Nat → Option (Bool)
  | [], i_2 =>
  k
  | q_3 :: rest, i_2 =>
  (bif (decide ((i_2 : Int) < (b_a1.length : Int))) then
  ((getI b_a1 (i_2 : Int)).bind fun q_5 =>
  ((x_sameA q_3 q_5).bind fun r_6 =>
  (bif (!r_6) then
  some (false)
  else
  (lf_constraintref03_SameAtoms_L0 k b_a1 rest (i_2 + 1)))))
  else
  k)
noncomputable def lf_constraintref03_SameAtoms (a_a0 : (List At)) (b_a1 : (List At)) : Option (Bool) :=
  (bif ((a_a0.length : Int) != (b_a1.length : Int)) then
  some (false)
  else
  (lf_constraintref03_SameAtoms_L0 (some (true)) b_a1 a_a0 0))

set_option maxHeartbeats 1000000 in
theorem lg_constraintref03_SameAtoms (a_a0 : (List At)) (b_a1 : (List At)) (res : Bool) (hr : lf_constraintref03_SameAtoms a_a0 b_a1 = some res) : Gives Try.prog 27 [.lst (a_a0.map encA), .lst (b_a1.map encA)] (.bool res) := by
  unfold lf_constraintref03_SameAtoms at hr
  refine spec_env [(0, .lst (a_a0.map encA)), (1, .lst (b_a1.map encA))] Try.func27 rfl rfl fun K hK => ?_
  refine g_seq ?_
  refine g_run (by kernel_rfl) [(0, .d)] rfl ?_
  refine r_d rfl rfl rfl (s_assign rfl rfl) ?_
  refine r_end ?_
  refine g_seq ?_
  refine g_seq ?_
  refine g_run (by kernel_rfl) [(0, .d), (1, .d), (2, .d), (3, .d), (4, .d)] rfl ?_
  refine r_d rfl rfl rfl (s_move rfl rfl) ?_
  refine r_d rfl rfl rfl (m_len (f := encA) a_a0 rfl el_L_api_Atom rfl (asl rfl)) ?_
  refine r_d rfl rfl rfl (s_move rfl rfl) ?_
  refine r_d rfl rfl rfl (m_len (f := encA) b_a1 rfl el_L_api_Atom rfl (asl rfl)) ?_
  refine r_d rfl rfl rfl (s_cmp rfl rfl rfl rfl) ?_
  refine r_end ?_
  refine g_sB 10 rfl hr (fun h10_0 hr => ?_) (fun h10_0 hr => ?_)
  ·
   refine g_condT rfl ?_
   refine g_seq ?_
   refine g_run (by kernel_rfl) [(0, .d)] rfl ?_
   refine r_d rfl rfl rfl (s_assign rfl rfl) ?_
   refine r_end ?_
   obtain rfl := Option.some.inj hr
   refine g_ret Try.func27 _ (.cons (resTmp rfl (Wk.refl _)) .nil) ?_
   rfl
  ·
   refine g_condF rfl ?_
   refine g_skip ?_
   refine g_seq ?_
   refine g_seq ?_
   refine g_run (by kernel_rfl) [(0, .d)] rfl ?_
   refine r_d rfl rfl rfl (s_assign rfl rfl) ?_
   refine r_end ?_
   obtain ⟨kk0, hkk0, hr⟩ := exK (fun k => lf_constraintref03_SameAtoms_L0 k b_a1 a_a0 0) hr
   refine g_len 0 rfl (asl rfl) fun hla0 => ?_
   simp only [List.length_map] at hla0
   refine g_blockJ (fun env σ => env = [] ∧ σ = [] ∧ kk0 = some res) ?_ (fun HK0 => ?_)
   ·
    rintro _ _ ⟨rfl, rfl, hr⟩
    rw [hkk0] at hr
    refine g_seq ?_
    refine g_run (by kernel_rfl) [(0, .d)] rfl ?_
    refine r_d rfl rfl rfl (s_assign rfl rfl) ?_
    refine r_end ?_
    obtain rfl := Option.some.inj hr
    refine g_ret Try.func27 _ (.cons (resTmp rfl (Wk.refl _)) .nil) ?_
    rfl
   ·
    refine g_sub [(0, .lst (a_a0.map encA)), (1, .lst (b_a1.map encA)), (5, .int .i64 ((0 : Nat) : Int))] (Sub.cons' rfl (Sub.cons' rfl (Sub.cons' rfl (Sub.nil _)))) ?_
    refine g_loop (fun n env σ => ∃ (i_2 : Nat), (n = a_a0.length - i_2) ∧ (env = [(0, .lst (a_a0.map encA)), (1, .lst (b_a1.map encA)), (5, .int .i64 (i_2 : Int))]) ∧ (σ = []) ∧ (i_2 ≤ a_a0.length) ∧ (lf_constraintref03_SameAtoms_L0 kk0 b_a1 (a_a0.drop i_2) i_2 = some res)) _ ⟨0, rfl, rfl, rfl, Nat.zero_le _, hr⟩ ?_
    rintro n _ _ ⟨i_2, rfl, rfl, rfl, hi0, hr⟩ IH0
    rcases listStep a_a0 i_2 hi0 with ⟨ht0, hd0, he0⟩ | ⟨q_3, ht0, hd0, hq0, hlt0⟩
    ·
     rw [hd0, lf_constraintref03_SameAtoms_L0] at hr
     refine g_seq ?_
     refine g_seq ?_
     refine g_run (by kernel_rfl) [(0, .d), (1, .d), (2, .d), (3, .d), (4, .d), (5, .d), (6, .d), (7, .d), (8, .d), (9, .d)] rfl ?_
     refine r_d rfl rfl rfl (s_move rfl rfl) ?_
     refine r_d rfl rfl rfl (s_move rfl rfl) ?_
     refine r_d rfl rfl rfl (m_len (f := encA) a_a0 rfl el_L_api_Atom rfl (asl rfl)) ?_
     refine r_d rfl rfl rfl (s_cmp rfl rfl rfl rfl) ?_
     refine r_d rfl rfl rfl (s_move rfl rfl) ?_
     refine r_known 15 false rfl ht0 ?_
     refine r_skip rfl rfl rfl ?_
     refine r_skip rfl rfl rfl ?_
     refine r_skip rfl rfl rfl ?_
     refine r_skip rfl rfl rfl ?_
     refine r_d rfl rfl rfl (s_pickF rfl rfl rfl) ?_
     refine r_end ?_
     refine g_condF rfl ?_
     refine g_exit rfl ?_
     refine g_sub [] (Sub.nil _) ?_
     exact HK0 _ _ ⟨rfl, rfl, hr⟩
    ·
     rw [hd0, lf_constraintref03_SameAtoms_L0] at hr
     refine g_seq ?_
     refine g_seq ?_
     refine g_run (by kernel_rfl) [(0, .d), (1, .d), (2, .d), (3, .d), (4, .d), (5, .d), (6, .d), (7, .d), (8, .d), (9, .d)] rfl ?_
     refine r_d rfl rfl rfl (s_move rfl rfl) ?_
     refine r_d rfl rfl rfl (s_move rfl rfl) ?_
     refine r_d rfl rfl rfl (m_len (f := encA) a_a0 rfl el_L_api_Atom rfl (asl rfl)) ?_
     refine r_d rfl rfl rfl (s_cmp rfl rfl rfl rfl) ?_
     refine r_d rfl rfl rfl (s_move rfl rfl) ?_
     refine r_known 15 true rfl ht0 ?_
     refine r_d rfl rfl rfl (s_move rfl rfl) ?_
     refine r_d rfl rfl rfl (s_move rfl rfl) ?_
     refine r_d rfl rfl rfl (m_len (f := encA) b_a1 rfl el_L_api_Atom rfl (asl rfl)) ?_
     refine r_d rfl rfl rfl (s_cmp rfl rfl rfl rfl) ?_
     refine r_d rfl rfl rfl (s_pickT rfl rfl rfl) ?_
     refine r_end ?_
     refine g_sB 20 rfl hr (fun h20_3 hr => ?_) (fun h20_3 hr => ?_)
     ·
      refine g_condT rfl ?_
      refine g_skip ?_
      refine g_seq ?_
      refine g_block ?_
      refine g_seq ?_
      refine g_any (by kernel_rfl) (by kernel_rfl) [(0, .d), (1, .d), (2, .d), (3, .d), (4, .d), (5, .d), (6, .d), (7, .d), (8, .d), (9, .d)] (by kernel_rfl) ?_
      refine r_d rfl rfl rfl (s_move rfl rfl) ?_
      refine r_d rfl rfl rfl (s_move rfl rfl) ?_
      refine r_d rfl rfl rfl (m_index (f := encA) a_a0 rfl el_L_api_Atom rfl (asl rfl) rfl hq0 sz_encA rfl) ?_
      refine r_d rfl rfl rfl (s_load rfl rfl (by exact ty_api_Atom) (sz_encA _)) ?_
      refine r_d rfl rfl rfl (s_move rfl rfl) ?_
      refine r_d rfl rfl rfl (s_move rfl rfl) ?_
      obtain ⟨q_5, hq_5, hr⟩ := bindS hr
      refine r_d rfl rfl rfl (m_index (f := encA) b_a1 rfl el_L_api_Atom rfl (asl rfl) rfl hq_5 sz_encA rfl) ?_
      refine r_d rfl rfl rfl (s_load rfl rfl (by exact ty_api_Atom) (sz_encA _)) ?_
      obtain ⟨r_6, hr_6, hr⟩ := bindS hr
      refine r_d rfl rfl rfl (s_callD rfl cl_constraintref03_SameAtom (.cons rfl (Wk.refl _) (.cons rfl (Wk.refl _) .nil)) (lx_constraintref03_SameAtom _ _ _ hr_6)) ?_
      refine r_d rfl rfl rfl (s_not rfl rfl) ?_
      refine r_end ?_
      refine g_sB 32 rfl hr (fun h32_6 hr => ?_) (fun h32_6 hr => ?_)
      ·
       refine g_condT rfl ?_
       refine g_seq ?_
       refine g_run (by kernel_rfl) [(0, .d)] rfl ?_
       refine r_d rfl rfl rfl (s_assign rfl rfl) ?_
       refine r_end ?_
       obtain rfl := Option.some.inj hr
       refine g_ret Try.func27 _ (.cons (resTmp rfl (Wk.refl _)) .nil) ?_
       rfl
      ·
       refine g_condF rfl ?_
       refine g_skip ?_
       refine g_inBlock ?_
       refine g_run (by kernel_rfl) [(0, .d), (1, .d), (2, .d)] rfl ?_
       refine r_d rfl rfl rfl (s_move rfl rfl) ?_
       refine r_d rfl rfl rfl (s_ar (r := ((i_2 + 1 : Nat) : Int)) rfl rfl rfl (by simp [iar]) (by omega)) ?_
       refine r_d rfl rfl rfl (s_assign rfl rfl) ?_
       refine r_end ?_
       refine g_sub [(0, .lst (a_a0.map encA)), (1, .lst (b_a1.map encA)), (5, .int .i64 ((i_2 + 1 : Nat) : Int))] (Sub.cons' rfl (Sub.cons' rfl (Sub.cons' rfl (Sub.nil _)))) ?_
       exact IH0 _ _ _ (by omega) ⟨(i_2 + 1), rfl, rfl, rfl, (by omega), hr⟩
     ·
      refine g_condF rfl ?_
      refine g_exit rfl ?_
      refine g_sub [] (Sub.nil _) ?_
      exact HK0 _ _ ⟨rfl, rfl, hr⟩

noncomputable def lf_constraintref03_SameGoals_L0 (k : Option (Bool)) (b_a1 : (List Gl)) : List Gl → Nat → Option (Bool)
  | [], i_2 =>
  k
  | q_3 :: rest, i_2 =>
  (bif (decide ((i_2 : Int) < (b_a1.length : Int))) then
  ((getI b_a1 (i_2 : Int)).bind fun q_5 =>
  ((x_sameG q_3 q_5).bind fun r_6 =>
  (bif (!r_6) then
  some (false)
  else
  (lf_constraintref03_SameGoals_L0 k b_a1 rest (i_2 + 1)))))
  else
  k)
noncomputable def lf_constraintref03_SameGoals (a_a0 : (List Gl)) (b_a1 : (List Gl)) : Option (Bool) :=
  (bif ((a_a0.length : Int) != (b_a1.length : Int)) then
  some (false)
  else
  (lf_constraintref03_SameGoals_L0 (some (true)) b_a1 a_a0 0))

set_option maxHeartbeats 1000000 in
theorem lg_constraintref03_SameGoals (a_a0 : (List Gl)) (b_a1 : (List Gl)) (res : Bool) (hr : lf_constraintref03_SameGoals a_a0 b_a1 = some res) : Gives Try.prog 28 [.lst (a_a0.map encG), .lst (b_a1.map encG)] (.bool res) := by
  unfold lf_constraintref03_SameGoals at hr
  refine spec_env [(0, .lst (a_a0.map encG)), (1, .lst (b_a1.map encG))] Try.func28 rfl rfl fun K hK => ?_
  refine g_seq ?_
  refine g_run (by kernel_rfl) [(0, .d)] rfl ?_
  refine r_d rfl rfl rfl (s_assign rfl rfl) ?_
  refine r_end ?_
  refine g_seq ?_
  refine g_seq ?_
  refine g_run (by kernel_rfl) [(0, .d), (1, .d), (2, .d), (3, .d), (4, .d)] rfl ?_
  refine r_d rfl rfl rfl (s_move rfl rfl) ?_
  refine r_d rfl rfl rfl (m_len (f := encG) a_a0 rfl el_L_api_Goal rfl (asl rfl)) ?_
  refine r_d rfl rfl rfl (s_move rfl rfl) ?_
  refine r_d rfl rfl rfl (m_len (f := encG) b_a1 rfl el_L_api_Goal rfl (asl rfl)) ?_
  refine r_d rfl rfl rfl (s_cmp rfl rfl rfl rfl) ?_
  refine r_end ?_
  refine g_sB 10 rfl hr (fun h10_0 hr => ?_) (fun h10_0 hr => ?_)
  ·
   refine g_condT rfl ?_
   refine g_seq ?_
   refine g_run (by kernel_rfl) [(0, .d)] rfl ?_
   refine r_d rfl rfl rfl (s_assign rfl rfl) ?_
   refine r_end ?_
   obtain rfl := Option.some.inj hr
   refine g_ret Try.func28 _ (.cons (resTmp rfl (Wk.refl _)) .nil) ?_
   rfl
  ·
   refine g_condF rfl ?_
   refine g_skip ?_
   refine g_seq ?_
   refine g_seq ?_
   refine g_run (by kernel_rfl) [(0, .d)] rfl ?_
   refine r_d rfl rfl rfl (s_assign rfl rfl) ?_
   refine r_end ?_
   obtain ⟨kk0, hkk0, hr⟩ := exK (fun k => lf_constraintref03_SameGoals_L0 k b_a1 a_a0 0) hr
   refine g_len 0 rfl (asl rfl) fun hla0 => ?_
   simp only [List.length_map] at hla0
   refine g_blockJ (fun env σ => env = [] ∧ σ = [] ∧ kk0 = some res) ?_ (fun HK0 => ?_)
   ·
    rintro _ _ ⟨rfl, rfl, hr⟩
    rw [hkk0] at hr
    refine g_seq ?_
    refine g_run (by kernel_rfl) [(0, .d)] rfl ?_
    refine r_d rfl rfl rfl (s_assign rfl rfl) ?_
    refine r_end ?_
    obtain rfl := Option.some.inj hr
    refine g_ret Try.func28 _ (.cons (resTmp rfl (Wk.refl _)) .nil) ?_
    rfl
   ·
    refine g_sub [(0, .lst (a_a0.map encG)), (1, .lst (b_a1.map encG)), (5, .int .i64 ((0 : Nat) : Int))] (Sub.cons' rfl (Sub.cons' rfl (Sub.cons' rfl (Sub.nil _)))) ?_
    refine g_loop (fun n env σ => ∃ (i_2 : Nat), (n = a_a0.length - i_2) ∧ (env = [(0, .lst (a_a0.map encG)), (1, .lst (b_a1.map encG)), (5, .int .i64 (i_2 : Int))]) ∧ (σ = []) ∧ (i_2 ≤ a_a0.length) ∧ (lf_constraintref03_SameGoals_L0 kk0 b_a1 (a_a0.drop i_2) i_2 = some res)) _ ⟨0, rfl, rfl, rfl, Nat.zero_le _, hr⟩ ?_
    rintro n _ _ ⟨i_2, rfl, rfl, rfl, hi0, hr⟩ IH0
    rcases listStep a_a0 i_2 hi0 with ⟨ht0, hd0, he0⟩ | ⟨q_3, ht0, hd0, hq0, hlt0⟩
    ·
     rw [hd0, lf_constraintref03_SameGoals_L0] at hr
     refine g_seq ?_
     refine g_seq ?_
     refine g_run (by kernel_rfl) [(0, .d), (1, .d), (2, .d), (3, .d), (4, .d), (5, .d), (6, .d), (7, .d), (8, .d), (9, .d)] rfl ?_
     refine r_d rfl rfl rfl (s_move rfl rfl) ?_
     refine r_d rfl rfl rfl (s_move rfl rfl) ?_
     refine r_d rfl rfl rfl (m_len (f := encG) a_a0 rfl el_L_api_Goal rfl (asl rfl)) ?_
     refine r_d rfl rfl rfl (s_cmp rfl rfl rfl rfl) ?_
     refine r_d rfl rfl rfl (s_move rfl rfl) ?_
     refine r_known 15 false rfl ht0 ?_
     refine r_skip rfl rfl rfl ?_
     refine r_skip rfl rfl rfl ?_
     refine r_skip rfl rfl rfl ?_
     refine r_skip rfl rfl rfl ?_
     refine r_d rfl rfl rfl (s_pickF rfl rfl rfl) ?_
     refine r_end ?_
     refine g_condF rfl ?_
     refine g_exit rfl ?_
     refine g_sub [] (Sub.nil _) ?_
     exact HK0 _ _ ⟨rfl, rfl, hr⟩
    ·
     rw [hd0, lf_constraintref03_SameGoals_L0] at hr
     refine g_seq ?_
     refine g_seq ?_
     refine g_run (by kernel_rfl) [(0, .d), (1, .d), (2, .d), (3, .d), (4, .d), (5, .d), (6, .d), (7, .d), (8, .d), (9, .d)] rfl ?_
     refine r_d rfl rfl rfl (s_move rfl rfl) ?_
     refine r_d rfl rfl rfl (s_move rfl rfl) ?_
     refine r_d rfl rfl rfl (m_len (f := encG) a_a0 rfl el_L_api_Goal rfl (asl rfl)) ?_
     refine r_d rfl rfl rfl (s_cmp rfl rfl rfl rfl) ?_
     refine r_d rfl rfl rfl (s_move rfl rfl) ?_
     refine r_known 15 true rfl ht0 ?_
     refine r_d rfl rfl rfl (s_move rfl rfl) ?_
     refine r_d rfl rfl rfl (s_move rfl rfl) ?_
     refine r_d rfl rfl rfl (m_len (f := encG) b_a1 rfl el_L_api_Goal rfl (asl rfl)) ?_
     refine r_d rfl rfl rfl (s_cmp rfl rfl rfl rfl) ?_
     refine r_d rfl rfl rfl (s_pickT rfl rfl rfl) ?_
     refine r_end ?_
     refine g_sB 20 rfl hr (fun h20_3 hr => ?_) (fun h20_3 hr => ?_)
     ·
      refine g_condT rfl ?_
      refine g_skip ?_
      refine g_seq ?_
      refine g_block ?_
      refine g_seq ?_
      refine g_any (by kernel_rfl) (by kernel_rfl) [(0, .d), (1, .d), (2, .d), (3, .d), (4, .d), (5, .d), (6, .d), (7, .d), (8, .d), (9, .d)] (by kernel_rfl) ?_
      refine r_d rfl rfl rfl (s_move rfl rfl) ?_
      refine r_d rfl rfl rfl (s_move rfl rfl) ?_
      refine r_d rfl rfl rfl (m_index (f := encG) a_a0 rfl el_L_api_Goal rfl (asl rfl) rfl hq0 sz_encG rfl) ?_
      refine r_d rfl rfl rfl (s_load rfl rfl (by exact ty_api_Goal) (sz_encG _)) ?_
      refine r_d rfl rfl rfl (s_move rfl rfl) ?_
      refine r_d rfl rfl rfl (s_move rfl rfl) ?_
      obtain ⟨q_5, hq_5, hr⟩ := bindS hr
      refine r_d rfl rfl rfl (m_index (f := encG) b_a1 rfl el_L_api_Goal rfl (asl rfl) rfl hq_5 sz_encG rfl) ?_
      refine r_d rfl rfl rfl (s_load rfl rfl (by exact ty_api_Goal) (sz_encG _)) ?_
      obtain ⟨r_6, hr_6, hr⟩ := bindS hr
      refine r_d rfl rfl rfl (s_callD rfl cl_constraintref03_SameGoal (.cons rfl (Wk.refl _) (.cons rfl (Wk.refl _) .nil)) (lx_constraintref03_SameGoal _ _ _ hr_6)) ?_
      refine r_d rfl rfl rfl (s_not rfl rfl) ?_
      refine r_end ?_
      refine g_sB 32 rfl hr (fun h32_6 hr => ?_) (fun h32_6 hr => ?_)
      ·
       refine g_condT rfl ?_
       refine g_seq ?_
       refine g_run (by kernel_rfl) [(0, .d)] rfl ?_
       refine r_d rfl rfl rfl (s_assign rfl rfl) ?_
       refine r_end ?_
       obtain rfl := Option.some.inj hr
       refine g_ret Try.func28 _ (.cons (resTmp rfl (Wk.refl _)) .nil) ?_
       rfl
      ·
       refine g_condF rfl ?_
       refine g_skip ?_
       refine g_inBlock ?_
       refine g_run (by kernel_rfl) [(0, .d), (1, .d), (2, .d)] rfl ?_
       refine r_d rfl rfl rfl (s_move rfl rfl) ?_
       refine r_d rfl rfl rfl (s_ar (r := ((i_2 + 1 : Nat) : Int)) rfl rfl rfl (by simp [iar]) (by omega)) ?_
       refine r_d rfl rfl rfl (s_assign rfl rfl) ?_
       refine r_end ?_
       refine g_sub [(0, .lst (a_a0.map encG)), (1, .lst (b_a1.map encG)), (5, .int .i64 ((i_2 + 1 : Nat) : Int))] (Sub.cons' rfl (Sub.cons' rfl (Sub.cons' rfl (Sub.nil _)))) ?_
       exact IH0 _ _ _ (by omega) ⟨(i_2 + 1), rfl, rfl, rfl, (by omega), hr⟩
     ·
      refine g_condF rfl ?_
      refine g_exit rfl ?_
      refine g_sub [] (Sub.nil _) ?_
      exact HK0 _ _ ⟨rfl, rfl, hr⟩

noncomputable def lf_constraintref14_SameRule (a_a0 : S_api_Rule) (b_a1 : S_api_Rule) : Option (Bool) :=
  (bif (a_a0.f0_Name.toList == b_a1.f0_Name.toList) then
  (bif (a_a0.f5_Vars == b_a1.f5_Vars) then
  ((lf_constraintref03_SameAtoms a_a0.f1_Keep b_a1.f1_Keep).bind fun r_3 =>
  (bif r_3 then
  ((lf_constraintref03_SameAtoms a_a0.f2_Remove b_a1.f2_Remove).bind fun r_5 =>
  (bif r_5 then
  ((lf_constraintref03_SameGoals a_a0.f3_Guard b_a1.f3_Guard).bind fun r_7 =>
  (bif r_7 then
  ((lf_constraintref03_SameGoals a_a0.f4_Body b_a1.f4_Body).bind fun r_9 =>
  some (r_9))
  else
  some (false)))
  else
  some (false)))
  else
  some (false)))
  else
  some (false))
  else
  some (false))

set_option maxHeartbeats 1000000 in
theorem lg_constraintref14_SameRule (a_a0 : S_api_Rule) (b_a1 : S_api_Rule) (res : Bool) (hr : lf_constraintref14_SameRule a_a0 b_a1 = some res) : Gives Try.prog 8 [enc_S_api_Rule a_a0, enc_S_api_Rule b_a1] (.bool res) := by
  unfold lf_constraintref14_SameRule at hr
  refine spec_env [(0, enc_S_api_Rule a_a0), (1, enc_S_api_Rule b_a1)] Try.func8 rfl rfl fun K hK => ?_
  refine g_seq ?_
  refine g_run (by kernel_rfl) [(0, .d), (1, .d), (2, .d)] rfl ?_
  refine r_d rfl rfl rfl (s_box rfl rfl rfl) ?_
  refine r_d rfl rfl rfl (s_box rfl rfl rfl) ?_
  refine r_d rfl rfl rfl (s_assign rfl rfl) ?_
  refine r_end ?_
  refine g_seq ?_
  refine g_run (by kernel_rfl) [(0, .d), (1, .d), (2, .d), (3, .d), (4, .d), (5, .d), (6, .d), (7, .d), (8, .d), (9, .d), (10, .d), (11, .d), (12, .d), (13, .d), (14, .d), (15, .d), (16, .d), (17, .d), (18, .d), (19, .d), (20, .d), (21, .d), (22, .d), (23, .d), (24, .d), (25, .d), (26, .d), (27, .d), (28, .d), (29, .d), (30, .d), (31, .d), (32, .d), (33, .d), (34, .d), (35, .d), (36, .d), (37, .d), (38, .d), (39, .d), (40, .d)] rfl ?_
  refine r_d rfl rfl rfl (s_fieldAddr rfl fl_api_Rule_0 rfl rfl rfl rfl) ?_
  refine r_d rfl rfl rfl (s_load rfl rfl (by exact ty_string) rfl) ?_
  refine r_d rfl rfl rfl (s_fieldAddr rfl fl_api_Rule_0 rfl rfl rfl rfl) ?_
  refine r_d rfl rfl rfl (s_load rfl rfl (by exact ty_string) rfl) ?_
  refine r_d rfl rfl rfl (s_cmpS rfl rfl rfl rfl) ?_
  refine r_d rfl rfl rfl (s_move rfl rfl) ?_
  refine r_sB 10 rfl hr (fun h10_0 hr => ?_) (fun h10_0 hr => ?_)
  ·
   refine r_d rfl rfl rfl (s_fieldAddr rfl fl_api_Rule_5 rfl rfl rfl rfl) ?_
   refine r_d rfl rfl rfl (s_load rfl rfl (by exact ty_int) rfl) ?_
   refine r_d rfl rfl rfl (s_fieldAddr rfl fl_api_Rule_5 rfl rfl rfl rfl) ?_
   refine r_d rfl rfl rfl (s_load rfl rfl (by exact ty_int) rfl) ?_
   refine r_d rfl rfl rfl (s_cmp rfl rfl rfl rfl) ?_
   refine r_d rfl rfl rfl (s_pickT rfl rfl rfl) ?_
   refine r_d rfl rfl rfl (s_move rfl rfl) ?_
   refine r_sB 17 rfl hr (fun h17_1 hr => ?_) (fun h17_1 hr => ?_)
   ·
    refine r_d rfl rfl rfl (s_fieldAddr rfl fl_api_Rule_1 rfl rfl rfl rfl) ?_
    refine r_d rfl rfl rfl (s_load rfl rfl (by exact ty_L_api_Atom) rfl) ?_
    refine r_d rfl rfl rfl (s_fieldAddr rfl fl_api_Rule_1 rfl rfl rfl rfl) ?_
    refine r_d rfl rfl rfl (s_load rfl rfl (by exact ty_L_api_Atom) rfl) ?_
    obtain ⟨r_3, hr_3, hr⟩ := bindS hr
    refine r_d rfl rfl rfl (s_callD rfl cl_constraintref03_SameAtoms (.cons rfl (Wk.refl _) (.cons rfl (Wk.refl _) .nil)) (lg_constraintref03_SameAtoms _ _ _ hr_3)) ?_
    refine r_d rfl rfl rfl (s_pickT rfl rfl rfl) ?_
    refine r_d rfl rfl rfl (s_move rfl rfl) ?_
    refine r_sB 24 rfl hr (fun h24_3 hr => ?_) (fun h24_3 hr => ?_)
    ·
     refine r_d rfl rfl rfl (s_fieldAddr rfl fl_api_Rule_2 rfl rfl rfl rfl) ?_
     refine r_d rfl rfl rfl (s_load rfl rfl (by exact ty_L_api_Atom) rfl) ?_
     refine r_d rfl rfl rfl (s_fieldAddr rfl fl_api_Rule_2 rfl rfl rfl rfl) ?_
     refine r_d rfl rfl rfl (s_load rfl rfl (by exact ty_L_api_Atom) rfl) ?_
     obtain ⟨r_5, hr_5, hr⟩ := bindS hr
     refine r_d rfl rfl rfl (s_callD rfl cl_constraintref03_SameAtoms (.cons rfl (Wk.refl _) (.cons rfl (Wk.refl _) .nil)) (lg_constraintref03_SameAtoms _ _ _ hr_5)) ?_
     refine r_d rfl rfl rfl (s_pickT rfl rfl rfl) ?_
     refine r_d rfl rfl rfl (s_move rfl rfl) ?_
     refine r_sB 31 rfl hr (fun h31_5 hr => ?_) (fun h31_5 hr => ?_)
     ·
      refine r_d rfl rfl rfl (s_fieldAddr rfl fl_api_Rule_3 rfl rfl rfl rfl) ?_
      refine r_d rfl rfl rfl (s_load rfl rfl (by exact ty_L_api_Goal) rfl) ?_
      refine r_d rfl rfl rfl (s_fieldAddr rfl fl_api_Rule_3 rfl rfl rfl rfl) ?_
      refine r_d rfl rfl rfl (s_load rfl rfl (by exact ty_L_api_Goal) rfl) ?_
      obtain ⟨r_7, hr_7, hr⟩ := bindS hr
      refine r_d rfl rfl rfl (s_callD rfl cl_constraintref03_SameGoals (.cons rfl (Wk.refl _) (.cons rfl (Wk.refl _) .nil)) (lg_constraintref03_SameGoals _ _ _ hr_7)) ?_
      refine r_d rfl rfl rfl (s_pickT rfl rfl rfl) ?_
      refine r_d rfl rfl rfl (s_move rfl rfl) ?_
      refine r_sB 38 rfl hr (fun h38_7 hr => ?_) (fun h38_7 hr => ?_)
      ·
       refine r_d rfl rfl rfl (s_fieldAddr rfl fl_api_Rule_4 rfl rfl rfl rfl) ?_
       refine r_d rfl rfl rfl (s_load rfl rfl (by exact ty_L_api_Goal) rfl) ?_
       refine r_d rfl rfl rfl (s_fieldAddr rfl fl_api_Rule_4 rfl rfl rfl rfl) ?_
       refine r_d rfl rfl rfl (s_load rfl rfl (by exact ty_L_api_Goal) rfl) ?_
       obtain ⟨r_9, hr_9, hr⟩ := bindS hr
       refine r_d rfl rfl rfl (s_callD rfl cl_constraintref03_SameGoals (.cons rfl (Wk.refl _) (.cons rfl (Wk.refl _) .nil)) (lg_constraintref03_SameGoals _ _ _ hr_9)) ?_
       refine r_d rfl rfl rfl (s_pickT rfl rfl rfl) ?_
       refine r_d rfl rfl rfl (s_assign rfl rfl) ?_
       refine r_end ?_
       obtain rfl := Option.some.inj hr
       refine g_ret Try.func8 _ (.cons (resTmp rfl (Wk.refl _)) .nil) ?_
       rfl
      ·
       refine r_skip rfl rfl rfl ?_
       refine r_skip rfl rfl rfl ?_
       refine r_skip rfl rfl rfl ?_
       refine r_skip rfl rfl rfl ?_
       refine r_skip rfl rfl rfl ?_
       refine r_d rfl rfl rfl (s_pickF rfl rfl rfl) ?_
       refine r_d rfl rfl rfl (s_assign rfl rfl) ?_
       refine r_end ?_
       obtain rfl := Option.some.inj hr
       refine g_ret Try.func8 _ (.cons (resTmp rfl (Wk.refl _)) .nil) ?_
       rfl
     ·
      refine r_skip rfl rfl rfl ?_
      refine r_skip rfl rfl rfl ?_
      refine r_skip rfl rfl rfl ?_
      refine r_skip rfl rfl rfl ?_
      refine r_skip rfl rfl rfl ?_
      refine r_d rfl rfl rfl (s_pickF rfl rfl rfl) ?_
      refine r_d rfl rfl rfl (s_move rfl rfl) ?_
      refine r_skip rfl rfl rfl ?_
      refine r_skip rfl rfl rfl ?_
      refine r_skip rfl rfl rfl ?_
      refine r_skip rfl rfl rfl ?_
      refine r_skip rfl rfl rfl ?_
      refine r_d rfl rfl rfl (s_pickF rfl rfl rfl) ?_
      refine r_d rfl rfl rfl (s_assign rfl rfl) ?_
      refine r_end ?_
      obtain rfl := Option.some.inj hr
      refine g_ret Try.func8 _ (.cons (resTmp rfl (Wk.refl _)) .nil) ?_
      rfl
    ·
     refine r_skip rfl rfl rfl ?_
     refine r_skip rfl rfl rfl ?_
     refine r_skip rfl rfl rfl ?_
     refine r_skip rfl rfl rfl ?_
     refine r_skip rfl rfl rfl ?_
     refine r_d rfl rfl rfl (s_pickF rfl rfl rfl) ?_
     refine r_d rfl rfl rfl (s_move rfl rfl) ?_
     refine r_skip rfl rfl rfl ?_
     refine r_skip rfl rfl rfl ?_
     refine r_skip rfl rfl rfl ?_
     refine r_skip rfl rfl rfl ?_
     refine r_skip rfl rfl rfl ?_
     refine r_d rfl rfl rfl (s_pickF rfl rfl rfl) ?_
     refine r_d rfl rfl rfl (s_move rfl rfl) ?_
     refine r_skip rfl rfl rfl ?_
     refine r_skip rfl rfl rfl ?_
     refine r_skip rfl rfl rfl ?_
     refine r_skip rfl rfl rfl ?_
     refine r_skip rfl rfl rfl ?_
     refine r_d rfl rfl rfl (s_pickF rfl rfl rfl) ?_
     refine r_d rfl rfl rfl (s_assign rfl rfl) ?_
     refine r_end ?_
     obtain rfl := Option.some.inj hr
     refine g_ret Try.func8 _ (.cons (resTmp rfl (Wk.refl _)) .nil) ?_
     rfl
   ·
    refine r_skip rfl rfl rfl ?_
    refine r_skip rfl rfl rfl ?_
    refine r_skip rfl rfl rfl ?_
    refine r_skip rfl rfl rfl ?_
    refine r_skip rfl rfl rfl ?_
    refine r_d rfl rfl rfl (s_pickF rfl rfl rfl) ?_
    refine r_d rfl rfl rfl (s_move rfl rfl) ?_
    refine r_skip rfl rfl rfl ?_
    refine r_skip rfl rfl rfl ?_
    refine r_skip rfl rfl rfl ?_
    refine r_skip rfl rfl rfl ?_
    refine r_skip rfl rfl rfl ?_
    refine r_d rfl rfl rfl (s_pickF rfl rfl rfl) ?_
    refine r_d rfl rfl rfl (s_move rfl rfl) ?_
    refine r_skip rfl rfl rfl ?_
    refine r_skip rfl rfl rfl ?_
    refine r_skip rfl rfl rfl ?_
    refine r_skip rfl rfl rfl ?_
    refine r_skip rfl rfl rfl ?_
    refine r_d rfl rfl rfl (s_pickF rfl rfl rfl) ?_
    refine r_d rfl rfl rfl (s_move rfl rfl) ?_
    refine r_skip rfl rfl rfl ?_
    refine r_skip rfl rfl rfl ?_
    refine r_skip rfl rfl rfl ?_
    refine r_skip rfl rfl rfl ?_
    refine r_skip rfl rfl rfl ?_
    refine r_d rfl rfl rfl (s_pickF rfl rfl rfl) ?_
    refine r_d rfl rfl rfl (s_assign rfl rfl) ?_
    refine r_end ?_
    obtain rfl := Option.some.inj hr
    refine g_ret Try.func8 _ (.cons (resTmp rfl (Wk.refl _)) .nil) ?_
    rfl
  ·
   refine r_skip rfl rfl rfl ?_
   refine r_skip rfl rfl rfl ?_
   refine r_skip rfl rfl rfl ?_
   refine r_skip rfl rfl rfl ?_
   refine r_skip rfl rfl rfl ?_
   refine r_d rfl rfl rfl (s_pickF rfl rfl rfl) ?_
   refine r_d rfl rfl rfl (s_move rfl rfl) ?_
   refine r_skip rfl rfl rfl ?_
   refine r_skip rfl rfl rfl ?_
   refine r_skip rfl rfl rfl ?_
   refine r_skip rfl rfl rfl ?_
   refine r_skip rfl rfl rfl ?_
   refine r_d rfl rfl rfl (s_pickF rfl rfl rfl) ?_
   refine r_d rfl rfl rfl (s_move rfl rfl) ?_
   refine r_skip rfl rfl rfl ?_
   refine r_skip rfl rfl rfl ?_
   refine r_skip rfl rfl rfl ?_
   refine r_skip rfl rfl rfl ?_
   refine r_skip rfl rfl rfl ?_
   refine r_d rfl rfl rfl (s_pickF rfl rfl rfl) ?_
   refine r_d rfl rfl rfl (s_move rfl rfl) ?_
   refine r_skip rfl rfl rfl ?_
   refine r_skip rfl rfl rfl ?_
   refine r_skip rfl rfl rfl ?_
   refine r_skip rfl rfl rfl ?_
   refine r_skip rfl rfl rfl ?_
   refine r_d rfl rfl rfl (s_pickF rfl rfl rfl) ?_
   refine r_d rfl rfl rfl (s_move rfl rfl) ?_
   refine r_skip rfl rfl rfl ?_
   refine r_skip rfl rfl rfl ?_
   refine r_skip rfl rfl rfl ?_
   refine r_skip rfl rfl rfl ?_
   refine r_skip rfl rfl rfl ?_
   refine r_d rfl rfl rfl (s_pickF rfl rfl rfl) ?_
   refine r_d rfl rfl rfl (s_assign rfl rfl) ?_
   refine r_end ?_
   obtain rfl := Option.some.inj hr
   refine g_ret Try.func8 _ (.cons (resTmp rfl (Wk.refl _)) .nil) ?_
   rfl

noncomputable def lf_constraintref16_Heads (r_a0 : S_api_Rule) : Option ((List At)) :=
  ((appO 40 [] r_a0.f1_Keep).bind fun l_3 =>
  ((appO 40 l_3 r_a0.f2_Remove).bind fun l_5 =>
  some (l_5)))

set_option maxHeartbeats 1000000 in
theorem lg_constraintref16_Heads (r_a0 : S_api_Rule) (res : (List At)) (hr : lf_constraintref16_Heads r_a0 = some res) : Gives Try.prog 10 [enc_S_api_Rule r_a0] (.lst (res.map encA)) := by
  unfold lf_constraintref16_Heads at hr
  refine spec_env [(0, enc_S_api_Rule r_a0)] Try.func10 rfl rfl fun K hK => ?_
  refine g_seq ?_
  refine g_run (by kernel_rfl) [(0, .d), (1, .w)] rfl ?_
  refine r_d rfl rfl rfl (s_box rfl rfl rfl) ?_
  refine r_w rfl rfl rfl (s_nilOwn 33 2 (.inl rfl)) ?_
  rintro _ _ ⟨u2_0, rfl, rfl⟩
  refine r_end ?_
  refine g_seq ?_
  refine g_run (by kernel_rfl) [(0, .w)] rfl ?_
  refine r_w rfl rfl rfl (s_nilOwn 33 2 (.inl rfl)) ?_
  rintro _ _ ⟨u3_1, rfl, rfl⟩
  refine r_end ?_
  refine g_seq ?_
  refine g_run (by kernel_rfl) [(0, .d), (1, .d), (2, .d), (3, .w), (4, .d)] rfl ?_
  refine r_d rfl rfl rfl (s_move rfl rfl) ?_
  refine r_d rfl rfl rfl (s_fieldAddr rfl fl_api_Rule_1 rfl rfl rfl rfl) ?_
  refine r_d rfl rfl rfl (s_load rfl rfl (by exact ty_L_api_Atom) rfl) ?_
  obtain ⟨l_3, hl_3, hr⟩ := bindS hr
  refine r_w rfl rfl rfl (m_appOwn (f := encA) [] r_a0.f1_Keep rfl el_L_api_Atom rfl rfl (asl rfl) (pf0 _) rfl sz_encA hl_3) ?_
  rintro _ _ ⟨u7_3, rfl, rfl⟩
  refine r_d rfl rfl rfl (s_assign rfl rfl) ?_
  refine r_end ?_
  refine g_seq ?_
  refine g_run (by kernel_rfl) [(0, .d), (1, .d), (2, .d), (3, .w), (4, .d)] rfl ?_
  refine r_d rfl rfl rfl (s_move rfl rfl) ?_
  refine r_d rfl rfl rfl (s_fieldAddr rfl fl_api_Rule_2 rfl rfl rfl rfl) ?_
  refine r_d rfl rfl rfl (s_load rfl rfl (by exact ty_L_api_Atom) rfl) ?_
  obtain ⟨l_5, hl_5, hr⟩ := bindS hr
  refine r_w rfl rfl rfl (m_appOwn (f := encA) l_3 r_a0.f2_Remove rfl el_L_api_Atom rfl rfl (asl rfl) (pf0 _) rfl sz_encA hl_5) ?_
  rintro _ _ ⟨u11_5, rfl, rfl⟩
  refine r_d rfl rfl rfl (s_assign rfl rfl) ?_
  refine r_end ?_
  obtain rfl := Option.some.inj hr
  refine g_ret Try.func10 _ (.cons (resTmp rfl (Wk.own _ _)) .nil) ?_
  rfl

noncomputable def lf_constraintref03_Var (n_a0 : Int) : Option (T) :=
  some ((T.mk 1 n_a0 ⟨#[]⟩ []))

set_option maxHeartbeats 1000000 in
theorem lg_constraintref03_Var (n_a0 : Int) (res : T) (hr : lf_constraintref03_Var n_a0 = some res) : Gives Try.prog 19 [.int .i64 n_a0] (encT res) := by
  unfold lf_constraintref03_Var at hr
  refine spec_env [(0, .int .i64 n_a0)] Try.func19 rfl rfl fun K hK => ?_
  refine g_seq ?_
  refine g_run (by kernel_rfl) [(0, .w)] rfl ?_
  refine r_w rfl rfl rfl (s_alloc rfl zv_api_Term) ?_
  rintro _ _ ⟨b2_0, rfl, rfl⟩
  refine r_end ?_
  refine g_seq ?_
  refine g_run (by kernel_rfl) [(0, .d), (1, .d), (2, .w)] rfl ?_
  refine r_d rfl rfl rfl (s_move rfl rfl) ?_
  refine r_d rfl rfl rfl (s_build rfl bt_api_Term (.cons rfl (Wk.refl _) (.cons rfl (Wk.refl _) .nil)) (.cons rfl rfl rfl (.cons rfl rfl rfl (.nil _)))) ?_
  refine r_w01 rfl rfl rfl (t_store0 _ rfl rfl rfl (Wk.refl _) (pf0 _) (by exact ty_api_Term) rfl rfl rfl) ?_
  refine r_end ?_
  obtain rfl := Option.some.inj hr
  refine g_ret Try.func19 _ (.cons (resRef rfl (.head _) (by exact ty_api_Term) rfl (Wk.refl _)) .nil) ?_
  first | rfl | (show _ = D.agg (fsT _); rw [fsT_eq] <;> rfl) | simp [packD, encT, fsT_eq, T.k, T.i, T.s, T.ar]

noncomputable def lf_constraintref03_GreatAtoms_L0 (k : (Int) → Option (Bool)) : List At → Int → Option (Bool)
  | [], most_1 =>
  (k most_1)
  | q_4 :: rest, most_1 =>
  (bif (decide (most_1 ≥ (0 : Int))) then
  ((x_weigh q_4.ts (wr ((wr (most_1 - (1 : Int))) - (wr (Int.tdiv (q_4.n.size : Int) 8)))) 64).bind fun r_6 =>
  (lf_constraintref03_GreatAtoms_L0 k rest r_6))
  else
  (k most_1))
noncomputable def lf_constraintref03_GreatAtoms (l_a0 : (List At)) (most_a1 : Int) : Option (Bool) :=
  (lf_constraintref03_GreatAtoms_L0 (fun most_3 =>
  some ((decide (most_3 < (0 : Int))))) l_a0 most_a1)

set_option maxHeartbeats 1000000 in
theorem lg_constraintref03_GreatAtoms (l_a0 : (List At)) (most_a1 : Int) (res : Bool) (hr : lf_constraintref03_GreatAtoms l_a0 most_a1 = some res) : Gives Try.prog 36 [.lst (l_a0.map encA), .int .i64 most_a1] (.bool res) := by
  unfold lf_constraintref03_GreatAtoms at hr
  refine spec_env [(0, .lst (l_a0.map encA)), (1, .int .i64 most_a1)] Try.func36 rfl rfl fun K hK => ?_
  refine g_seq ?_
  refine g_run (by kernel_rfl) [(0, .d)] rfl ?_
  refine r_d rfl rfl rfl (s_assign rfl rfl) ?_
  refine r_end ?_
  refine g_seq ?_
  refine g_seq ?_
  refine g_run (by kernel_rfl) [(0, .d)] rfl ?_
  refine r_d rfl rfl rfl (s_assign rfl rfl) ?_
  refine r_end ?_
  obtain ⟨kk0, hkk0, hr⟩ := exK (fun k => lf_constraintref03_GreatAtoms_L0 k l_a0 most_a1) hr
  refine g_len 0 rfl (asl rfl) fun hla0 => ?_
  simp only [List.length_map] at hla0
  refine g_blockJ (fun env σ => ∃ (most_3 : Int), env = [(1, .int .i64 most_3)] ∧ σ = [] ∧ kk0 most_3 = some res) ?_ (fun HK0 => ?_)
  ·
   rintro _ _ ⟨most_3, rfl, rfl, hr⟩
   rw [hkk0] at hr
   refine g_seq ?_
   refine g_run (by kernel_rfl) [(0, .d), (1, .d), (2, .d)] rfl ?_
   refine r_d rfl rfl rfl (s_move rfl rfl) ?_
   refine r_d rfl rfl rfl (s_cmp rfl rfl rfl rfl) ?_
   refine r_d rfl rfl rfl (s_assign rfl rfl) ?_
   refine r_end ?_
   obtain rfl := Option.some.inj hr
   refine g_ret Try.func36 _ (.cons (resTmp rfl (Wk.refl _)) .nil) ?_
   rfl
  ·
   refine g_sub [(0, .lst (l_a0.map encA)), (1, .int .i64 most_a1), (5, .int .i64 ((0 : Nat) : Int))] (Sub.cons' rfl (Sub.cons' rfl (Sub.cons' rfl (Sub.nil _)))) ?_
   refine g_loop (fun n env σ => ∃ (most_1 : Int) (i_2 : Nat), (n = l_a0.length - i_2) ∧ (env = [(0, .lst (l_a0.map encA)), (1, .int .i64 most_1), (5, .int .i64 (i_2 : Int))]) ∧ (σ = []) ∧ (i_2 ≤ l_a0.length) ∧ (lf_constraintref03_GreatAtoms_L0 kk0 (l_a0.drop i_2) most_1 = some res)) _ ⟨most_a1, 0, rfl, rfl, rfl, Nat.zero_le _, hr⟩ ?_
   rintro n _ _ ⟨most_1, i_2, rfl, rfl, rfl, hi0, hr⟩ IH0
   rcases listStep l_a0 i_2 hi0 with ⟨ht0, hd0, he0⟩ | ⟨q_4, ht0, hd0, hq0, hlt0⟩
   ·
    rw [hd0, lf_constraintref03_GreatAtoms_L0] at hr
    refine g_seq ?_
    refine g_seq ?_
    refine g_run (by kernel_rfl) [(0, .d), (1, .d), (2, .d), (3, .d), (4, .d), (5, .d), (6, .d), (7, .d)] rfl ?_
    refine r_d rfl rfl rfl (s_move rfl rfl) ?_
    refine r_d rfl rfl rfl (s_move rfl rfl) ?_
    refine r_d rfl rfl rfl (m_len (f := encA) l_a0 rfl el_L_api_Atom rfl (asl rfl)) ?_
    refine r_d rfl rfl rfl (s_cmp rfl rfl rfl rfl) ?_
    refine r_d rfl rfl rfl (s_move rfl rfl) ?_
    refine r_known 10 false rfl ht0 ?_
    refine r_skip rfl rfl rfl ?_
    refine r_skip rfl rfl rfl ?_
    refine r_d rfl rfl rfl (s_pickF rfl rfl rfl) ?_
    refine r_end ?_
    refine g_condF rfl ?_
    refine g_exit rfl ?_
    refine g_sub [(1, .int .i64 most_1)] (Sub.cons' rfl (Sub.nil _)) ?_
    exact HK0 _ _ ⟨most_1, rfl, rfl, hr⟩
   ·
    rw [hd0, lf_constraintref03_GreatAtoms_L0] at hr
    refine g_seq ?_
    refine g_seq ?_
    refine g_run (by kernel_rfl) [(0, .d), (1, .d), (2, .d), (3, .d), (4, .d), (5, .d), (6, .d), (7, .d)] rfl ?_
    refine r_d rfl rfl rfl (s_move rfl rfl) ?_
    refine r_d rfl rfl rfl (s_move rfl rfl) ?_
    refine r_d rfl rfl rfl (m_len (f := encA) l_a0 rfl el_L_api_Atom rfl (asl rfl)) ?_
    refine r_d rfl rfl rfl (s_cmp rfl rfl rfl rfl) ?_
    refine r_d rfl rfl rfl (s_move rfl rfl) ?_
    refine r_known 10 true rfl ht0 ?_
    refine r_d rfl rfl rfl (s_move rfl rfl) ?_
    refine r_d rfl rfl rfl (s_cmp rfl rfl rfl rfl) ?_
    refine r_d rfl rfl rfl (s_pickT rfl rfl rfl) ?_
    refine r_end ?_
    refine g_sB 13 rfl hr (fun h13_4 hr => ?_) (fun h13_4 hr => ?_)
    ·
     refine g_condT rfl ?_
     refine g_skip ?_
     refine g_seq ?_
     refine g_block ?_
     refine g_any (by kernel_rfl) (by kernel_rfl) [(0, .d), (1, .d), (2, .d), (3, .d), (4, .d), (5, .d), (6, .d), (7, .d), (8, .d), (9, .d), (10, .d), (11, .d), (12, .d), (13, .d), (14, .d), (15, .d), (16, .d)] (by kernel_rfl) ?_
     refine r_d rfl rfl rfl (s_move rfl rfl) ?_
     refine r_d rfl rfl rfl (s_move rfl rfl) ?_
     refine r_d rfl rfl rfl (m_index (f := encA) l_a0 rfl el_L_api_Atom rfl (asl rfl) rfl hq0 sz_encA rfl) ?_
     refine r_d rfl rfl rfl (s_fieldAddr rfl fl_api_Atom_1 rfl rfl rfl rfl) ?_
     refine r_d rfl rfl rfl (s_load rfl rfl (by exact ty_L_api_Term) rfl) ?_
     refine r_d rfl rfl rfl (s_move rfl rfl) ?_
     refine r_d rfl rfl rfl (s_arW rfl rfl rfl rfl) ?_
     refine r_d rfl rfl rfl (s_move rfl rfl) ?_
     refine r_d rfl rfl rfl (s_move rfl rfl) ?_
     refine r_d rfl rfl rfl (m_index (f := encA) l_a0 rfl el_L_api_Atom rfl (asl rfl) rfl hq0 sz_encA rfl) ?_
     refine r_d rfl rfl rfl (s_fieldAddr rfl fl_api_Atom_0 rfl rfl rfl rfl) ?_
     refine r_d rfl rfl rfl (s_load rfl rfl (by exact ty_string) rfl) ?_
     refine r_d rfl rfl rfl (s_lenS rfl Try.underlying9 rfl) ?_
     refine r_d rfl rfl rfl (s_quoC rfl rfl rfl (by decide)) ?_
     refine r_d rfl rfl rfl (s_arW rfl rfl rfl rfl) ?_
     obtain ⟨r_6, hr_6, hr⟩ := bindS hr
     refine r_d rfl rfl rfl (s_callD rfl cl_constraintref03_weigh (.cons rfl (Wk.refl _) (.cons rfl (Wk.refl _) (.cons rfl (Wk.refl _) .nil))) (lx_constraintref03_weigh _ _ _ _ hr_6)) ?_
     refine r_d rfl rfl rfl (s_assign rfl rfl) ?_
     refine r_end ?_
     refine g_inBlock ?_
     refine g_run (by kernel_rfl) [(0, .d), (1, .d), (2, .d)] rfl ?_
     refine r_d rfl rfl rfl (s_move rfl rfl) ?_
     refine r_d rfl rfl rfl (s_ar (r := ((i_2 + 1 : Nat) : Int)) rfl rfl rfl (by simp [iar]) (by omega)) ?_
     refine r_d rfl rfl rfl (s_assign rfl rfl) ?_
     refine r_end ?_
     refine g_sub [(0, .lst (l_a0.map encA)), (1, .int .i64 r_6), (5, .int .i64 ((i_2 + 1 : Nat) : Int))] (Sub.cons' rfl (Sub.cons' rfl (Sub.cons' rfl (Sub.nil _)))) ?_
     exact IH0 _ _ _ (by omega) ⟨r_6, (i_2 + 1), rfl, rfl, rfl, (by omega), hr⟩
    ·
     refine g_condF rfl ?_
     refine g_exit rfl ?_
     refine g_sub [(1, .int .i64 most_1)] (Sub.cons' rfl (Sub.nil _)) ?_
     exact HK0 _ _ ⟨most_1, rfl, rfl, hr⟩

noncomputable def lf_constraintref03_GreatGoals_L0 (k : (Int) → Option (Bool)) : List Gl → Int → Option (Bool)
  | [], most_1 =>
  (k most_1)
  | q_4 :: rest, most_1 =>
  (bif (decide (most_1 ≥ (0 : Int))) then
  ((x_weigh q_4.ts (wr ((wr (most_1 - (1 : Int))) - (wr (Int.tdiv (q_4.n.size : Int) 8)))) 64).bind fun r_6 =>
  (lf_constraintref03_GreatGoals_L0 k rest r_6))
  else
  (k most_1))
noncomputable def lf_constraintref03_GreatGoals (l_a0 : (List Gl)) (most_a1 : Int) : Option (Bool) :=
  (lf_constraintref03_GreatGoals_L0 (fun most_3 =>
  some ((decide (most_3 < (0 : Int))))) l_a0 most_a1)

set_option maxHeartbeats 1000000 in
theorem lg_constraintref03_GreatGoals (l_a0 : (List Gl)) (most_a1 : Int) (res : Bool) (hr : lf_constraintref03_GreatGoals l_a0 most_a1 = some res) : Gives Try.prog 37 [.lst (l_a0.map encG), .int .i64 most_a1] (.bool res) := by
  unfold lf_constraintref03_GreatGoals at hr
  refine spec_env [(0, .lst (l_a0.map encG)), (1, .int .i64 most_a1)] Try.func37 rfl rfl fun K hK => ?_
  refine g_seq ?_
  refine g_run (by kernel_rfl) [(0, .d)] rfl ?_
  refine r_d rfl rfl rfl (s_assign rfl rfl) ?_
  refine r_end ?_
  refine g_seq ?_
  refine g_seq ?_
  refine g_run (by kernel_rfl) [(0, .d)] rfl ?_
  refine r_d rfl rfl rfl (s_assign rfl rfl) ?_
  refine r_end ?_
  obtain ⟨kk0, hkk0, hr⟩ := exK (fun k => lf_constraintref03_GreatGoals_L0 k l_a0 most_a1) hr
  refine g_len 0 rfl (asl rfl) fun hla0 => ?_
  simp only [List.length_map] at hla0
  refine g_blockJ (fun env σ => ∃ (most_3 : Int), env = [(1, .int .i64 most_3)] ∧ σ = [] ∧ kk0 most_3 = some res) ?_ (fun HK0 => ?_)
  ·
   rintro _ _ ⟨most_3, rfl, rfl, hr⟩
   rw [hkk0] at hr
   refine g_seq ?_
   refine g_run (by kernel_rfl) [(0, .d), (1, .d), (2, .d)] rfl ?_
   refine r_d rfl rfl rfl (s_move rfl rfl) ?_
   refine r_d rfl rfl rfl (s_cmp rfl rfl rfl rfl) ?_
   refine r_d rfl rfl rfl (s_assign rfl rfl) ?_
   refine r_end ?_
   obtain rfl := Option.some.inj hr
   refine g_ret Try.func37 _ (.cons (resTmp rfl (Wk.refl _)) .nil) ?_
   rfl
  ·
   refine g_sub [(0, .lst (l_a0.map encG)), (1, .int .i64 most_a1), (5, .int .i64 ((0 : Nat) : Int))] (Sub.cons' rfl (Sub.cons' rfl (Sub.cons' rfl (Sub.nil _)))) ?_
   refine g_loop (fun n env σ => ∃ (most_1 : Int) (i_2 : Nat), (n = l_a0.length - i_2) ∧ (env = [(0, .lst (l_a0.map encG)), (1, .int .i64 most_1), (5, .int .i64 (i_2 : Int))]) ∧ (σ = []) ∧ (i_2 ≤ l_a0.length) ∧ (lf_constraintref03_GreatGoals_L0 kk0 (l_a0.drop i_2) most_1 = some res)) _ ⟨most_a1, 0, rfl, rfl, rfl, Nat.zero_le _, hr⟩ ?_
   rintro n _ _ ⟨most_1, i_2, rfl, rfl, rfl, hi0, hr⟩ IH0
   rcases listStep l_a0 i_2 hi0 with ⟨ht0, hd0, he0⟩ | ⟨q_4, ht0, hd0, hq0, hlt0⟩
   ·
    rw [hd0, lf_constraintref03_GreatGoals_L0] at hr
    refine g_seq ?_
    refine g_seq ?_
    refine g_run (by kernel_rfl) [(0, .d), (1, .d), (2, .d), (3, .d), (4, .d), (5, .d), (6, .d), (7, .d)] rfl ?_
    refine r_d rfl rfl rfl (s_move rfl rfl) ?_
    refine r_d rfl rfl rfl (s_move rfl rfl) ?_
    refine r_d rfl rfl rfl (m_len (f := encG) l_a0 rfl el_L_api_Goal rfl (asl rfl)) ?_
    refine r_d rfl rfl rfl (s_cmp rfl rfl rfl rfl) ?_
    refine r_d rfl rfl rfl (s_move rfl rfl) ?_
    refine r_known 10 false rfl ht0 ?_
    refine r_skip rfl rfl rfl ?_
    refine r_skip rfl rfl rfl ?_
    refine r_d rfl rfl rfl (s_pickF rfl rfl rfl) ?_
    refine r_end ?_
    refine g_condF rfl ?_
    refine g_exit rfl ?_
    refine g_sub [(1, .int .i64 most_1)] (Sub.cons' rfl (Sub.nil _)) ?_
    exact HK0 _ _ ⟨most_1, rfl, rfl, hr⟩
   ·
    rw [hd0, lf_constraintref03_GreatGoals_L0] at hr
    refine g_seq ?_
    refine g_seq ?_
    refine g_run (by kernel_rfl) [(0, .d), (1, .d), (2, .d), (3, .d), (4, .d), (5, .d), (6, .d), (7, .d)] rfl ?_
    refine r_d rfl rfl rfl (s_move rfl rfl) ?_
    refine r_d rfl rfl rfl (s_move rfl rfl) ?_
    refine r_d rfl rfl rfl (m_len (f := encG) l_a0 rfl el_L_api_Goal rfl (asl rfl)) ?_
    refine r_d rfl rfl rfl (s_cmp rfl rfl rfl rfl) ?_
    refine r_d rfl rfl rfl (s_move rfl rfl) ?_
    refine r_known 10 true rfl ht0 ?_
    refine r_d rfl rfl rfl (s_move rfl rfl) ?_
    refine r_d rfl rfl rfl (s_cmp rfl rfl rfl rfl) ?_
    refine r_d rfl rfl rfl (s_pickT rfl rfl rfl) ?_
    refine r_end ?_
    refine g_sB 13 rfl hr (fun h13_4 hr => ?_) (fun h13_4 hr => ?_)
    ·
     refine g_condT rfl ?_
     refine g_skip ?_
     refine g_seq ?_
     refine g_block ?_
     refine g_any (by kernel_rfl) (by kernel_rfl) [(0, .d), (1, .d), (2, .d), (3, .d), (4, .d), (5, .d), (6, .d), (7, .d), (8, .d), (9, .d), (10, .d), (11, .d), (12, .d), (13, .d), (14, .d), (15, .d), (16, .d)] (by kernel_rfl) ?_
     refine r_d rfl rfl rfl (s_move rfl rfl) ?_
     refine r_d rfl rfl rfl (s_move rfl rfl) ?_
     refine r_d rfl rfl rfl (m_index (f := encG) l_a0 rfl el_L_api_Goal rfl (asl rfl) rfl hq0 sz_encG rfl) ?_
     refine r_d rfl rfl rfl (s_fieldAddr rfl fl_api_Goal_2 rfl rfl rfl rfl) ?_
     refine r_d rfl rfl rfl (s_load rfl rfl (by exact ty_L_api_Term) rfl) ?_
     refine r_d rfl rfl rfl (s_move rfl rfl) ?_
     refine r_d rfl rfl rfl (s_arW rfl rfl rfl rfl) ?_
     refine r_d rfl rfl rfl (s_move rfl rfl) ?_
     refine r_d rfl rfl rfl (s_move rfl rfl) ?_
     refine r_d rfl rfl rfl (m_index (f := encG) l_a0 rfl el_L_api_Goal rfl (asl rfl) rfl hq0 sz_encG rfl) ?_
     refine r_d rfl rfl rfl (s_fieldAddr rfl fl_api_Goal_1 rfl rfl rfl rfl) ?_
     refine r_d rfl rfl rfl (s_load rfl rfl (by exact ty_string) rfl) ?_
     refine r_d rfl rfl rfl (s_lenS rfl Try.underlying9 rfl) ?_
     refine r_d rfl rfl rfl (s_quoC rfl rfl rfl (by decide)) ?_
     refine r_d rfl rfl rfl (s_arW rfl rfl rfl rfl) ?_
     obtain ⟨r_6, hr_6, hr⟩ := bindS hr
     refine r_d rfl rfl rfl (s_callD rfl cl_constraintref03_weigh (.cons rfl (Wk.refl _) (.cons rfl (Wk.refl _) (.cons rfl (Wk.refl _) .nil))) (lx_constraintref03_weigh _ _ _ _ hr_6)) ?_
     refine r_d rfl rfl rfl (s_assign rfl rfl) ?_
     refine r_end ?_
     refine g_inBlock ?_
     refine g_run (by kernel_rfl) [(0, .d), (1, .d), (2, .d)] rfl ?_
     refine r_d rfl rfl rfl (s_move rfl rfl) ?_
     refine r_d rfl rfl rfl (s_ar (r := ((i_2 + 1 : Nat) : Int)) rfl rfl rfl (by simp [iar]) (by omega)) ?_
     refine r_d rfl rfl rfl (s_assign rfl rfl) ?_
     refine r_end ?_
     refine g_sub [(0, .lst (l_a0.map encG)), (1, .int .i64 r_6), (5, .int .i64 ((i_2 + 1 : Nat) : Int))] (Sub.cons' rfl (Sub.cons' rfl (Sub.cons' rfl (Sub.nil _)))) ?_
     exact IH0 _ _ _ (by omega) ⟨r_6, (i_2 + 1), rfl, rfl, rfl, (by omega), hr⟩
    ·
     refine g_condF rfl ?_
     refine g_exit rfl ?_
     refine g_sub [(1, .int .i64 most_1)] (Sub.cons' rfl (Sub.nil _)) ?_
     exact HK0 _ _ ⟨most_1, rfl, rfl, hr⟩

noncomputable def lf_constraintref03_GreatRules_L0 (k : Option (Bool)) (l_a0 : (List S_api_Rule)) (most_a1 : Int) : List S_api_Rule → Option (Bool)
  | [] =>
  k
  | q_2 :: rest =>
  (bif (decide ((l_a0.length : Int) > most_a1)) then
  some (true)
  else
  (bif (decide ((wr ((wr ((wr (Int.tdiv (q_2.f0_Name.size : Int) 8)) + (q_2.f1_Keep.length : Int))) + (q_2.f2_Remove.length : Int))) > most_a1)) then
  some (true)
  else
  ((lf_constraintref03_GreatAtoms q_2.f1_Keep most_a1).bind fun r_6 =>
  (bif r_6 then
  some (true)
  else
  ((lf_constraintref03_GreatAtoms q_2.f2_Remove most_a1).bind fun r_8 =>
  (bif r_8 then
  some (true)
  else
  ((lf_constraintref03_GreatGoals q_2.f3_Guard most_a1).bind fun r_10 =>
  (bif r_10 then
  some (true)
  else
  ((lf_constraintref03_GreatGoals q_2.f4_Body most_a1).bind fun r_12 =>
  (bif r_12 then
  some (true)
  else
  (lf_constraintref03_GreatRules_L0 k l_a0 most_a1 rest)))))))))))
noncomputable def lf_constraintref03_GreatRules (l_a0 : (List S_api_Rule)) (most_a1 : Int) : Option (Bool) :=
  (lf_constraintref03_GreatRules_L0 (some (false)) l_a0 most_a1 l_a0)

end Go.Proofs.Ytlannippingfdaa

