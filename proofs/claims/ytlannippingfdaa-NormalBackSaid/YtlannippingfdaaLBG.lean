/-
  Texts of the seat, merged.
-/
import Derived.Test.YtlannippingfdaaLBA
import Derived.Test.YtlannippingfdaaLBB
import Derived.Test.YtlannippingfdaaLBC
import Derived.Test.YtlannippingfdaaLBD
import Derived.Test.YtlannippingfdaaLBE
import Derived.Test.YtlannippingfdaaLBF
import Derived.Test.YtlannippingfdaaChecked
import Derived.WalkKit
import Derived.Lib.Hide
import Derived.Lib.AppendStr
import Derived.Deep.AppendLies
import Derived.Deep.AppendSrc
import Derived.Deep.Draws
import Derived.Deep.QuietTactic
import Derived.BigQuiet
import Derived.Deep.RegionWith
import Derived.Maps.AppendAt
import Derived.WalkSpells
import Derived.Deep.Slices
import Derived.Deep.Fields
import Derived.ChangeArms
import Derived.Orders
import Derived.RangeFuncNested
import Derived.RangeFuncBound
import Derived.RangeFuncCalls
import Derived.RangeFuncLeaves
import Derived.Shelf.Abstract
import Derived.OwnWalkIn
import Derived.TacticsInMore
import Derived.LoopNIn
import Derived.LoopIn
import Derived.Lib.OthersKept
import Derived.Lib.TrimU
import Derived.Lib.IndexAny
import Derived.Deep.LoopGhost
import Derived.Lib.Bytealg
import Derived.RangeFuncBox
import Derived.RangeFuncWrites
import Derived.Maps.OwnIn
import Derived.Maps.Views
import Derived.Laws.OwnMore
import Derived.Maps.OwnSet
import Derived.Test.YtlannippingfdaaRows
import Derived.ProofKit
import Derived.OpenShut
import Derived.Carry
import Derived.OrdersIn
import Derived.Great.BuildSlice
import Derived.ArgAppend
import Derived.Laws.MakeOwn
import Derived.Laws.Cover3
import Derived.Laws.CopyRow
import Derived.MapKept
import Derived.Maps.RangeRun
import Derived.DeepKeys5
import Derived.WideKeyRuns
import Derived.RangeFuncOwn
import Derived.Lib.AppendZeros
set_option linter.unusedVariables false
set_option linter.unusedSimpArgs false
set_option linter.unnecessarySimpa false
set_option linter.all false

namespace Go.Proofs.Ytlannippingfdaa
set_option maxRecDepth 100000
open Go.RowKit

theorem zvx_map_int_bool : ZeroV Try.prog 47 (.nilm) := .val (.map none) rfl (by kernel_rfl) rfl

theorem zm_bool : ZeroM Try.prog 4 (.bool false) := ⟨.bool false, by kernel_rfl, fun _ _ => by simp only [Rep]⟩

noncomputable def lf_normal_numbered (fuel : Nat) (r_a0 : S_api_Rule) : Option (Bool) :=
  ((lf_source_Number fuel r_a0).bind fun r_1 =>
  ((lf_normal_same r_a0 r_1).bind fun r_2 =>
  some (r_2)))

set_option maxHeartbeats 1000000 in
theorem lg_normal_numbered (fuel : Nat) (r_a0 : S_api_Rule) (res : Bool) (hr : lf_normal_numbered fuel r_a0 = some res) : Gives Try.prog 21 [enc_S_api_Rule r_a0] (.bool res) := by
  unfold lf_normal_numbered at hr
  refine spec_env [(0, enc_S_api_Rule r_a0)] Try.func21 rfl rfl fun K hK => ?_
  refine g_seq ?_
  refine g_run (by kernel_rfl) [(0, .d), (1, .d)] rfl ?_
  refine r_d rfl rfl rfl (s_box rfl rfl rfl) ?_
  refine r_d rfl rfl rfl (s_assign rfl rfl) ?_
  refine r_end ?_
  refine g_seq ?_
  refine g_any (by kernel_rfl) (by kernel_rfl) [(0, .d), (1, .d), (2, .d), (3, .d), (4, .d)] (by kernel_rfl) ?_
  refine r_d rfl rfl rfl (s_load rfl rfl (by exact ty_api_Rule) (sz_S_api_Rule _)) ?_
  refine r_d rfl rfl rfl (s_load rfl rfl (by exact ty_api_Rule) (sz_S_api_Rule _)) ?_
  obtain ⟨r_1, hr_1, hr⟩ := bindS hr
  refine r_d rfl rfl rfl (s_callD rfl cl_source_Number (.cons rfl (Wk.refl _) .nil) (lg_source_Number fuel _ _ hr_1)) ?_
  obtain ⟨r_2, hr_2, hr⟩ := bindS hr
  refine r_d rfl rfl rfl (s_callD rfl cl_normal_same (.cons rfl (Wk.refl _) (.cons rfl (Wk.refl _) .nil)) (lg_normal_same _ _ _ hr_2)) ?_
  refine r_d rfl rfl rfl (s_assign rfl rfl) ?_
  refine r_end ?_
  obtain rfl := Option.some.inj hr
  refine g_ret Try.func21 _ (.cons (resTmp rfl (Wk.refl _)) .nil) ?_
  rfl

set_option maxHeartbeats 1000000 in
theorem lg_slices_Clone_api_Atom_api_Atom (l : (List At)) (res : (List At)) (hr : appO 40 ([] : (List At)) l = some res) : Spec Try.prog 40 [.lst (l.map encA)] [] (fun d σ => ∃ b, d = .arr b 2 0 res.length ∧ σ = [.arr b (res.map encA) 33 2]) := by
  obtain ⟨hb1, hb2, hres⟩ := appO_some hr
  obtain rfl : l = res := by simpa using hres.symm
  simp only [List.length_nil, Nat.zero_add] at hb1 hb2
  refine spec_env [(0, .lst (l.map encA))] Try.func40 rfl rfl fun K hK => ?_
  refine g_seq ?_
  refine g_run (by kernel_rfl) [(0, .d)] rfl ?_
  refine r_d rfl rfl rfl (s_assign rfl rfl) ?_
  refine r_end ?_
  refine g_seq ?_
  refine g_seq ?_
  refine g_run (by kernel_rfl) [(0, .d), (1, .w)] rfl ?_
  refine r_d rfl rfl rfl (s_move rfl rfl) ?_
  refine r_w rfl rfl rfl (s_isNil rfl el_L_api_Atom rfl (asl rfl) (aszm sz_encA)) ?_
  rintro _ _ ⟨q4, rfl, hq4, rfl⟩
  refine r_end ?_
  refine g_split 4 rfl (fun h4 => ?_) (fun h4 => ?_)
  ·
    have hn : l = [] := by simpa using hq4 h4
    refine g_condT rfl ?_
    refine g_seq ?_
    refine g_run (by kernel_rfl) [(0, .w)] rfl ?_
    refine r_w rfl rfl rfl (s_nilArr (e := 33) (s := 2) (by decide) (.inl rfl)) ?_
    rintro _ _ ⟨b2, rfl, rfl⟩
    refine r_end ?_
    refine g_ret Try.func40 _ (.cons (resTmp rfl (Wk.refl _)) .nil) ?_
    exact ⟨_, by rw [hn]; rfl, by rw [hn]; rfl⟩
  ·
    refine g_condF rfl ?_
    refine g_skip ?_
    refine g_seq ?_
    refine g_run (by kernel_rfl) [(0, .d), (1, .d), (2, .w), (3, .d)] rfl ?_
    refine r_d rfl rfl rfl (t_lit0 rfl el_L_api_Atom rfl) ?_
    refine r_d rfl rfl rfl (s_move rfl rfl) ?_
    refine r_w rfl rfl rfl (s_appNew rfl el_L_api_Atom rfl rfl (asl rfl) (aszm sz_encA) (by rw [List.length_map]; exact hb1)) ?_
    rintro _ _ ⟨b7, rfl, rfl⟩
    refine r_d rfl rfl rfl (s_assign rfl rfl) ?_
    refine r_end ?_
    refine g_ret Try.func40 _ (.cons (resTmp rfl (Wk.refl _)) .nil) ?_
    exact ⟨_, by simp [packD], rfl⟩

set_option maxHeartbeats 1000000 in
theorem lg_slices_Clone_api_Term_api_Term (l : (List T)) (res : (List T)) (hr : appO 56 ([] : (List T)) l = some res) : Spec Try.prog 60 [.lst (l.map encT)] [] (fun d σ => ∃ b, d = .arr b 4 0 res.length ∧ σ = [.arr b (res.map encT) 36 4]) := by
  obtain ⟨hb1, hb2, hres⟩ := appO_some hr
  obtain rfl : l = res := by simpa using hres.symm
  simp only [List.length_nil, Nat.zero_add] at hb1 hb2
  refine spec_env [(0, .lst (l.map encT))] Try.func60 rfl rfl fun K hK => ?_
  refine g_seq ?_
  refine g_run (by kernel_rfl) [(0, .d)] rfl ?_
  refine r_d rfl rfl rfl (s_assign rfl rfl) ?_
  refine r_end ?_
  refine g_seq ?_
  refine g_seq ?_
  refine g_run (by kernel_rfl) [(0, .d), (1, .w)] rfl ?_
  refine r_d rfl rfl rfl (s_move rfl rfl) ?_
  refine r_w rfl rfl rfl (s_isNil rfl el_L_api_Term rfl (asl rfl) (aszm sz_encT)) ?_
  rintro _ _ ⟨q4, rfl, hq4, rfl⟩
  refine r_end ?_
  refine g_split 4 rfl (fun h4 => ?_) (fun h4 => ?_)
  ·
    have hn : l = [] := by simpa using hq4 h4
    refine g_condT rfl ?_
    refine g_seq ?_
    refine g_run (by kernel_rfl) [(0, .w)] rfl ?_
    refine r_w rfl rfl rfl (s_nilArr (e := 36) (s := 4) (by decide) (.inl rfl)) ?_
    rintro _ _ ⟨b2, rfl, rfl⟩
    refine r_end ?_
    refine g_ret Try.func60 _ (.cons (resTmp rfl (Wk.refl _)) .nil) ?_
    exact ⟨_, by rw [hn]; rfl, by rw [hn]; rfl⟩
  ·
    refine g_condF rfl ?_
    refine g_skip ?_
    refine g_seq ?_
    refine g_run (by kernel_rfl) [(0, .d), (1, .d), (2, .w), (3, .d)] rfl ?_
    refine r_d rfl rfl rfl (t_lit0 rfl el_L_api_Term rfl) ?_
    refine r_d rfl rfl rfl (s_move rfl rfl) ?_
    refine r_w rfl rfl rfl (s_appNew rfl el_L_api_Term rfl rfl (asl rfl) (aszm sz_encT) (by rw [List.length_map]; exact hb1)) ?_
    rintro _ _ ⟨b7, rfl, rfl⟩
    refine r_d rfl rfl rfl (s_assign rfl rfl) ?_
    refine r_end ?_
    refine g_ret Try.func60 _ (.cons (resTmp rfl (Wk.refl _)) .nil) ?_
    exact ⟨_, by simp [packD], rfl⟩

noncomputable def lf_normal_Join_1_s1 (v_a0 : Int) (c_0 : Int) (c_1 : Int) : Option (Int) :=
  (bif (v_a0 == c_0) then
  some (c_1)
  else
  some (v_a0))

set_option maxHeartbeats 1000000 in
theorem lg_normal_Join_1_s1 (v_a0 : Int) (c_0 : Int) (c_1 : Int) (b_o0 : Nat) (b_o1 : Nat) (res : Int) (hr : lf_normal_Join_1_s1 v_a0 c_0 c_1 = some res) : Spec Try.prog 35 [.int .i64 v_a0, .ref b_o0 0 [], .ref b_o1 0 []] [.cell b_o0 (.int .i64 c_0), .cell b_o1 (.int .i64 c_1)] (fun d σ => d = .int .i64 res ∧ σ = [.cell b_o0 (.int .i64 c_0), .cell b_o1 (.int .i64 c_1)]) := by
  unfold lf_normal_Join_1_s1 at hr
  refine spec_env [(0, .int .i64 v_a0), (1, .ref b_o0 0 []), (2, .ref b_o1 0 [])] Try.func35 rfl rfl fun K hK => ?_
  refine g_seq ?_
  refine g_run (by kernel_rfl) [(0, .d)] rfl ?_
  refine r_d rfl rfl rfl (s_assign rfl rfl) ?_
  refine r_end ?_
  refine g_seq ?_
  refine g_seq ?_
  refine g_run (by kernel_rfl) [(0, .d), (1, .r), (2, .d)] rfl ?_
  refine r_d rfl rfl rfl (s_move rfl rfl) ?_
  refine r_r rfl rfl rfl (t_loadRef rfl rfl (.head _) rfl rfl (by exact ty_int) rfl) ?_
  refine r_d rfl rfl rfl (s_cmp rfl rfl rfl rfl) ?_
  refine r_end ?_
  refine g_sB 7 rfl hr (fun h7_0 hr => ?_) (fun h7_0 hr => ?_)
  ·
   refine g_condT rfl ?_
   refine g_seq ?_
   refine g_run (by kernel_rfl) [(0, .r), (1, .d)] rfl ?_
   refine r_r rfl rfl rfl (t_loadRef rfl rfl (.tail _ (.head _)) rfl rfl (by exact ty_int) rfl) ?_
   refine r_d rfl rfl rfl (s_assign rfl rfl) ?_
   refine r_end ?_
   obtain rfl := Option.some.inj hr
   refine g_ret Try.func35 _ (.cons (resTmp rfl (Wk.refl _)) .nil) ?_
   exact ⟨rfl, rfl⟩
  ·
   refine g_condF rfl ?_
   refine g_skip ?_
   refine g_seq ?_
   refine g_run (by kernel_rfl) [(0, .d), (1, .d)] rfl ?_
   refine r_d rfl rfl rfl (s_move rfl rfl) ?_
   refine r_d rfl rfl rfl (s_assign rfl rfl) ?_
   refine r_end ?_
   obtain rfl := Option.some.inj hr
   refine g_ret Try.func35 _ (.cons (resTmp rfl (Wk.refl _)) .nil) ?_
   exact ⟨rfl, rfl⟩

noncomputable def lf_normal_renamed_s2_L0 (k : ((List T)) → (Int) → (Int) → Option ((List T) × Int × Int)) (rec : (List T) → Int → Int → Option ((List T) × Int × Int)) : Nat → Int → Int → Int → (List T) → Option ((List T) × Int × Int)
  | 0, t12_3, l_4, l_5, a_6 =>
  (k a_6 l_4 l_5)
  | rest + 1, t12_3, l_4, l_5, a_6 =>
  ((getI a_6 t12_3).bind fun q_10 =>
  (bif (q_10.k == (1 : Int)) then
  ((lf_normal_Join_1_s1 q_10.i l_4 l_5).bind fun r_13 =>
  (lf_normal_renamed_s2_L0 k rec rest (t12_3 + 1) l_4 l_5 (a_6.set t12_3.toNat (T.mk q_10.k r_13 q_10.s q_10.ar))))
  else
  (bif (q_10.k == (2 : Int)) then
  ((rec q_10.ar l_4 l_5).bind fun r_15 =>
  (lf_normal_renamed_s2_L0 k rec rest (t12_3 + 1) r_15.2.1 r_15.2.2 (a_6.set t12_3.toNat (T.mk q_10.k q_10.i q_10.s r_15.1))))
  else
  (lf_normal_renamed_s2_L0 k rec rest (t12_3 + 1) l_4 l_5 a_6))))
noncomputable def lf_normal_renamed_s2 : Nat → (List T) → Int → Int → Option ((List T) × Int × Int)
  | 0, _, _, _ => none
  | fuel + 1, l_a0, c_0, c_1 =>
    (fun (rec : (List T) → Int → Int → Option ((List T) × Int × Int)) =>
      ((appO 56 [] l_a0).bind fun l_1 =>
      (lf_normal_renamed_s2_L0 (fun a_7 l_8 l_9 =>
      some (a_7, l_8, l_9)) rec ((l_1.length : Int) - 0 : Int).toNat 0 c_0 c_1 l_1))) (lf_normal_renamed_s2 fuel)

set_option maxHeartbeats 1000000 in
theorem lgs_normal_renamed_s2 (fuel : Nat) (rec : (List T) → Int → Int → Option ((List T) × Int × Int)) (IHR : ∀ (l_a0 : (List T)) (c_0 : Int) (c_1 : Int) (b_o0 : Nat) (b_o1 : Nat) (res : (List T) × Int × Int), rec l_a0 c_0 c_1 = some res → Spec Try.prog 41 [.lst (l_a0.map encT), .clo (.func 35) [] [.ref b_o0 0 [], .ref b_o1 0 []]] [.cell b_o0 (.int .i64 c_0), .cell b_o1 (.int .i64 c_1)] (fun d σ => d = .lst (res.1.map encT) ∧ σ = [.cell b_o0 (.int .i64 res.2.1), .cell b_o1 (.int .i64 res.2.2)])) (l_a0 : (List T)) (c_0 : Int) (c_1 : Int) (b_o0 : Nat) (b_o1 : Nat) (res : (List T) × Int × Int)
    (hr : ((appO 56 [] l_a0).bind fun l_1 =>
(lf_normal_renamed_s2_L0 (fun a_7 l_8 l_9 =>
some (a_7, l_8, l_9)) rec ((l_1.length : Int) - 0 : Int).toNat 0 c_0 c_1 l_1)) = some res) : Spec Try.prog 41 [.lst (l_a0.map encT), .clo (.func 35) [] [.ref b_o0 0 [], .ref b_o1 0 []]] [.cell b_o0 (.int .i64 c_0), .cell b_o1 (.int .i64 c_1)] (fun d σ => d = .lst (res.1.map encT) ∧ σ = [.cell b_o0 (.int .i64 res.2.1), .cell b_o1 (.int .i64 res.2.2)]) := by
  refine spec_env [(0, .lst (l_a0.map encT)), (1, .clo (.func 35) [] [.ref b_o0 0 [], .ref b_o1 0 []])] Try.func41 rfl rfl fun K hK => ?_
  refine g_seq ?_
  refine g_run (by kernel_rfl) [(0, .d)] rfl ?_
  refine r_d rfl rfl rfl (s_assign rfl rfl) ?_
  refine r_end ?_
  refine g_seq ?_
  refine g_run (by kernel_rfl) [(0, .d), (1, .w), (2, .d)] rfl ?_
  refine r_d rfl rfl rfl (s_move rfl rfl) ?_
  obtain ⟨l_1, hl_1, hr⟩ := bindS hr
  refine r_w rfl rfl rfl (s_call _ rfl cl_slices_Clone_api_Term_api_Term (.cons rfl (Wk.refl _) .nil) (by exact List.Perm.refl _) (lg_slices_Clone_api_Term_api_Term l_a0 _ hl_1)) ?_
  rintro _ _ ⟨_, ⟨b9_1, rfl, rfl⟩, rfl⟩
  refine r_st ((.arr b9_1 (l_1.map encT) 36 4) :: _) rfl ?_
  refine r_d rfl rfl rfl (s_assign rfl rfl) ?_
  refine r_end ?_
  refine g_seq ?_
  refine g_seq ?_
  refine g_run (by kernel_rfl) [(0, .d), (1, .d), (2, .d)] rfl ?_
  refine r_d rfl rfl rfl (s_move rfl rfl) ?_
  refine r_d rfl rfl rfl (s_lenA rfl Try.underlying31 rfl) ?_
  refine r_d rfl rfl rfl (s_move rfl rfl) ?_
  refine r_end ?_
  obtain ⟨kk0, hkk0, hr⟩ := exK (fun k => lf_normal_renamed_s2_L0 k rec ((l_1.length : Int) - 0 : Int).toNat 0 c_0 c_1 l_1) hr
  refine g_int 11 rfl fun hla0 => ?_
  refine g_blockJ (fun env σ => ∃ (a_7 : (List T)) (l_8 : Int) (l_9 : Int), env = [(5, .arr b9_1 4 0 l_1.length)] ∧ σ = [.arr b9_1 (a_7.map encT) 36 4, .cell b_o0 (.int .i64 l_8), .cell b_o1 (.int .i64 l_9)] ∧ a_7.length = l_1.length ∧ kk0 a_7 l_8 l_9 = some res) ?_ (fun HK0 => ?_)
  ·
   rintro _ _ ⟨a_7, l_8, l_9, rfl, rfl, hl_a_7, hr⟩
   rw [hkk0] at hr
   refine g_seq ?_
   refine g_run (by kernel_rfl) [(0, .d), (1, .d)] rfl ?_
   refine r_d rfl rfl rfl (s_move rfl rfl) ?_
   refine r_d rfl rfl rfl (s_assign rfl rfl) ?_
   refine r_end ?_
   refine g_freezeArr (l := a_7.map encT) 4 rfl (pf0 _) (by rw [List.length_map]; exact Eq.symm hl_a_7) ?_
   obtain rfl := Option.some.inj hr
   refine g_ret Try.func41 _ (.cons (resTmp rfl (Wk.refl _)) .nil) ?_
   exact ⟨rfl, rfl⟩
  ·
   refine g_sub [(1, .clo (.func 35) [] [.ref b_o0 0 [], .ref b_o1 0 []]), (5, .arr b9_1 4 0 l_1.length), (10, .arr b9_1 4 0 l_1.length), (11, .int .i64 (l_1.length : Int)), (12, .int .i64 0)] (Sub.cons' rfl (Sub.cons' rfl (Sub.cons' rfl (Sub.cons' rfl (Sub.cons' rfl (Sub.nil _)))))) ?_
   refine g_perm [_, _, _] _ (((pf0 _).trans (pf2 _ _ _ _)).trans (pf2 _ _ _ _)) ?_
   refine g_loop (fun n env σ => ∃ (t12_3 : Int) (l_4 : Int) (l_5 : Int) (a_6 : (List T)) (m0 : Nat), (m0 = n) ∧ (env = [(1, .clo (.func 35) [] [.ref b_o0 0 [], .ref b_o1 0 []]), (5, .arr b9_1 4 0 l_1.length), (10, .arr b9_1 4 0 l_1.length), (11, .int .i64 (l_1.length : Int)), (12, .int .i64 t12_3)]) ∧ (σ = [.cell b_o0 (.int .i64 l_4), .cell b_o1 (.int .i64 l_5), .arr b9_1 (a_6.map encT) 36 4]) ∧ (a_6.length = l_1.length) ∧ (m0 = ((l_1.length : Int) - t12_3 : Int).toNat) ∧ (lf_normal_renamed_s2_L0 kk0 rec m0 t12_3 l_4 l_5 a_6 = some res)) _ ⟨0, c_0, c_1, l_1, _, rfl, rfl, rfl, rfl, rfl, hr⟩ ?_
   rintro n _ _ ⟨t12_3, l_4, l_5, a_6, m0, rfl, rfl, rfl, hl_a_6, hi0, hr⟩ IH0
   refine g_int 12 rfl fun hb0 => ?_
   rcases cntStep t12_3 (l_1.length : Int) m0 hi0 with ⟨hm0, ht0⟩ | ⟨m0', hm0, ht0, hi0', hlt0⟩
   ·
    rw [hm0, lf_normal_renamed_s2_L0] at hr
    refine g_seq ?_
    refine g_run (by kernel_rfl) [(0, .d)] rfl ?_
    refine r_d rfl rfl rfl (s_cmp rfl rfl rfl rfl) ?_
    refine r_end ?_
    refine g_seq ?_
    refine g_known 13 false rfl ht0 ?_
    refine g_condF rfl ?_
    refine g_exit rfl ?_
    refine g_sub [(5, .arr b9_1 4 0 l_1.length)] (Sub.cons' rfl (Sub.nil _)) ?_
    refine g_perm [_, _, _] _ (((pf1 _ _ _).trans (pf1 _ _ _)).trans (pf2 _ _ _ _)) ?_
    exact HK0 _ _ ⟨a_6, l_4, l_5, rfl, rfl, hl_a_6, hr⟩
   ·
    rw [hm0, lf_normal_renamed_s2_L0] at hr
    refine g_seq ?_
    refine g_run (by kernel_rfl) [(0, .d)] rfl ?_
    refine r_d rfl rfl rfl (s_cmp rfl rfl rfl rfl) ?_
    refine r_end ?_
    refine g_seq ?_
    refine g_known 13 true rfl ht0 ?_
    refine g_condT rfl ?_
    refine g_skip ?_
    refine g_seq ?_
    refine g_block ?_
    refine g_seq ?_
    refine g_run (by kernel_rfl) [(0, .d), (1, .d), (2, .r), (3, .w), (4, .d), (5, .w)] rfl ?_
    refine r_d rfl rfl rfl (s_move rfl rfl) ?_
    obtain ⟨q_10, hq_10, hr⟩ := bindS hr
    have hq_10_n := (getI_some hq_10).2
    refine r_d rfl rfl rfl (m_indexArr0 a_6 rfl el_L_api_Term rfl rfl hq_10 hl_a_6) ?_
    refine r_r rfl rfl rfl (t_loadM rfl rfl (.tail _ (.tail _ (.head _))) (getm hq_10_n) rfl rfl (by exact ty_api_Term) (sz_encT _)) ?_
    refine r_w rfl rfl rfl (s_alloc rfl zv_api_Term) ?_
    rintro _ _ ⟨b7_10, rfl, rfl⟩
    refine r_d rfl rfl rfl (s_assign rfl rfl) ?_
    refine r_w01 rfl rfl rfl (t_store0 _ rfl rfl rfl (Wk.refl _) (pf0 _) (by exact ty_api_Term) (sz_encT _) rfl rfl) ?_
    refine r_end ?_
    refine g_freeze 7 b7_10 rfl (pf0 _) ?_
    refine g_seq ?_
    refine g_run (by kernel_rfl) [(0, .d), (1, .d)] rfl ?_
    refine r_d rfl rfl rfl (s_fieldAddr rfl fl_api_Term_0 rfl (fsT_get0 _) (fsT_off0 _) rfl) ?_
    refine r_d rfl rfl rfl (s_load rfl rfl (by exact ty_int) rfl) ?_
    refine r_end ?_
    refine g_block ?_
    refine g_seq ?_
    refine g_run (by kernel_rfl) [(0, .d), (1, .d)] rfl ?_
    refine r_d rfl rfl rfl (s_cmp rfl rfl rfl rfl) ?_
    refine r_d rfl rfl rfl (s_assign rfl rfl) ?_
    refine r_end ?_
    refine g_sB 19 rfl hr (fun h19_11 hr => ?_) (fun h19_11 hr => ?_)
    ·
     refine g_condT rfl ?_
     refine g_run (by kernel_rfl) [(0, .d), (1, .d), (2, .d), (3, .d), (4, .d), (5, .w), (6, .d), (7, .d), (8, .w)] rfl ?_
     refine r_d rfl rfl rfl (s_move rfl rfl) ?_
     refine r_d rfl rfl rfl (s_move rfl rfl) ?_
     refine r_d rfl rfl rfl (s_move rfl rfl) ?_
     refine r_d rfl rfl rfl (s_fieldAddr rfl fl_api_Term_1 rfl (fsT_get1 _) (fsT_off1 _) rfl) ?_
     refine r_d rfl rfl rfl (s_load rfl rfl (by exact ty_int) rfl) ?_
     obtain ⟨r_13, hr_13, hr⟩ := bindS hr
     refine r_w rfl rfl rfl (s_callV _ rfl rfl cl_normal_Join_1 (.cons rfl (Wk.refl _) .nil) rfl (by exact ((pf1 _ _ _).trans (pf1 _ _ _))) (lg_normal_Join_1_s1 _ _ _ _ _ _ hr_13)) ?_
     rintro _ _ ⟨_, ⟨rfl, rfl⟩, rfl⟩
     refine r_st ((.cell b_o0 (.int .i64 l_4)) :: (.cell b_o1 (.int .i64 l_5)) :: _) rfl ?_
     have hq_10_n := (getI_some hq_10).2
     refine r_d rfl rfl rfl (m_indexArr0 a_6 rfl el_L_api_Term rfl rfl hq_10 hl_a_6) ?_
     refine r_d rfl rfl rfl (s_fieldM rfl fl_api_Term_1 rfl) ?_
     refine r_w01 rfl rfl rfl (t_storeM _ rfl rfl rfl (Wk.refl _) (pf2 _ _ _ _) (getm hq_10_n) rfl (subT1 _) (offT1 _) (by exact ty_int) rfl rfl rfl) ?_
     refine r_st [.arr b9_1 ((a_6.set t12_3.toNat (T.mk q_10.k r_13 q_10.s q_10.ar)).map encT) 36 4, .cell b_o0 (.int .i64 l_4), .cell b_o1 (.int .i64 l_5)] (by simp only [List.map_set, List.nil_append, setT1]) ?_
     refine r_end ?_
     refine g_inBlock ?_
     refine g_inBlock ?_
     refine g_run (by kernel_rfl) [(0, .d), (1, .d)] rfl ?_
     refine r_d rfl rfl rfl (s_ar (r := t12_3 + 1) rfl rfl rfl rfl (by omega)) ?_
     refine r_d rfl rfl rfl (s_move rfl rfl) ?_
     refine r_end ?_
     refine g_sub [(1, .clo (.func 35) [] [.ref b_o0 0 [], .ref b_o1 0 []]), (5, .arr b9_1 4 0 l_1.length), (10, .arr b9_1 4 0 l_1.length), (11, .int .i64 (l_1.length : Int)), (12, .int .i64 (t12_3 + 1))] (Sub.cons' rfl (Sub.cons' rfl (Sub.cons' rfl (Sub.cons' rfl (Sub.cons' rfl (Sub.nil _)))))) ?_
     refine g_perm [_, _, _] _ (((pf0 _).trans (pf2 _ _ _ _)).trans (pf2 _ _ _ _)) ?_
     exact IH0 _ _ _ (by omega) ⟨(t12_3 + 1), l_4, l_5, (a_6.set t12_3.toNat (T.mk q_10.k r_13 q_10.s q_10.ar)), _, rfl, rfl, rfl, (List.length_set.trans hl_a_6), hi0', hr⟩
    ·
     refine g_condF rfl ?_
     refine g_seq ?_
     refine g_run (by kernel_rfl) [(0, .d), (1, .d)] rfl ?_
     refine r_d rfl rfl rfl (s_cmp rfl rfl rfl rfl) ?_
     refine r_d rfl rfl rfl (s_assign rfl rfl) ?_
     refine r_end ?_
     refine g_sB 29 rfl hr (fun h29_13 hr => ?_) (fun h29_13 hr => ?_)
     ·
      refine g_condT rfl ?_
      refine g_run (by kernel_rfl) [(0, .d), (1, .d), (2, .d), (3, .d), (4, .d), (5, .w), (6, .d), (7, .d), (8, .w)] rfl ?_
      refine r_d rfl rfl rfl (s_move rfl rfl) ?_
      refine r_d rfl rfl rfl (s_move rfl rfl) ?_
      refine r_d rfl rfl rfl (s_fieldAddr rfl fl_api_Term_3 rfl (fsT_get3 _) (fsT_off3 _) rfl) ?_
      refine r_d rfl rfl rfl (s_load rfl rfl (by exact ty_L_api_Term) rfl) ?_
      refine r_d rfl rfl rfl (s_move rfl rfl) ?_
      obtain ⟨r_15, hr_15, hr⟩ := bindS hr
      refine r_w rfl rfl rfl (s_call _ rfl cl_normal_renamed (.cons rfl (Wk.refl _) (.cons rfl (Wk.refl _) .nil)) (by exact ((pf1 _ _ _).trans (pf1 _ _ _))) (IHR _ _ _ _ _ _ hr_15)) ?_
      rintro _ _ ⟨_, ⟨rfl, rfl⟩, rfl⟩
      refine r_st ((.cell b_o0 (.int .i64 r_15.2.1)) :: (.cell b_o1 (.int .i64 r_15.2.2)) :: _) rfl ?_
      have hq_10_n := (getI_some hq_10).2
      refine r_d rfl rfl rfl (m_indexArr0 a_6 rfl el_L_api_Term rfl rfl hq_10 hl_a_6) ?_
      refine r_d rfl rfl rfl (s_fieldM rfl fl_api_Term_3 rfl) ?_
      refine r_w01 rfl rfl rfl (t_storeM _ rfl rfl rfl (Wk.refl _) (pf2 _ _ _ _) (getm hq_10_n) rfl (subT3 _) (offT3 _) (by exact ty_L_api_Term) rfl rfl rfl) ?_
      refine r_st [.arr b9_1 ((a_6.set t12_3.toNat (T.mk q_10.k q_10.i q_10.s r_15.1)).map encT) 36 4, .cell b_o0 (.int .i64 r_15.2.1), .cell b_o1 (.int .i64 r_15.2.2)] (by simp only [List.map_set, List.nil_append, setT3]) ?_
      refine r_end ?_
      refine g_inBlock ?_
      refine g_inBlock ?_
      refine g_run (by kernel_rfl) [(0, .d), (1, .d)] rfl ?_
      refine r_d rfl rfl rfl (s_ar (r := t12_3 + 1) rfl rfl rfl rfl (by omega)) ?_
      refine r_d rfl rfl rfl (s_move rfl rfl) ?_
      refine r_end ?_
      refine g_sub [(1, .clo (.func 35) [] [.ref b_o0 0 [], .ref b_o1 0 []]), (5, .arr b9_1 4 0 l_1.length), (10, .arr b9_1 4 0 l_1.length), (11, .int .i64 (l_1.length : Int)), (12, .int .i64 (t12_3 + 1))] (Sub.cons' rfl (Sub.cons' rfl (Sub.cons' rfl (Sub.cons' rfl (Sub.cons' rfl (Sub.nil _)))))) ?_
      refine g_perm [_, _, _] _ (((pf0 _).trans (pf2 _ _ _ _)).trans (pf2 _ _ _ _)) ?_
      exact IH0 _ _ _ (by omega) ⟨(t12_3 + 1), r_15.2.1, r_15.2.2, (a_6.set t12_3.toNat (T.mk q_10.k q_10.i q_10.s r_15.1)), _, rfl, rfl, rfl, (List.length_set.trans hl_a_6), hi0', hr⟩
     ·
      refine g_condF rfl ?_
      refine g_skip ?_
      refine g_inBlock ?_
      refine g_inBlock ?_
      refine g_run (by kernel_rfl) [(0, .d), (1, .d)] rfl ?_
      refine r_d rfl rfl rfl (s_ar (r := t12_3 + 1) rfl rfl rfl rfl (by omega)) ?_
      refine r_d rfl rfl rfl (s_move rfl rfl) ?_
      refine r_end ?_
      refine g_sub [(1, .clo (.func 35) [] [.ref b_o0 0 [], .ref b_o1 0 []]), (5, .arr b9_1 4 0 l_1.length), (10, .arr b9_1 4 0 l_1.length), (11, .int .i64 (l_1.length : Int)), (12, .int .i64 (t12_3 + 1))] (Sub.cons' rfl (Sub.cons' rfl (Sub.cons' rfl (Sub.cons' rfl (Sub.cons' rfl (Sub.nil _)))))) ?_
      exact IH0 _ _ _ (by omega) ⟨(t12_3 + 1), l_4, l_5, a_6, _, rfl, rfl, rfl, hl_a_6, hi0', hr⟩
theorem lg_normal_renamed_s2 : ∀ (fuel : Nat) (l_a0 : (List T)) (c_0 : Int) (c_1 : Int) (b_o0 : Nat) (b_o1 : Nat) (res : (List T) × Int × Int), lf_normal_renamed_s2 fuel l_a0 c_0 c_1 = some res → Spec Try.prog 41 [.lst (l_a0.map encT), .clo (.func 35) [] [.ref b_o0 0 [], .ref b_o1 0 []]] [.cell b_o0 (.int .i64 c_0), .cell b_o1 (.int .i64 c_1)] (fun d σ => d = .lst (res.1.map encT) ∧ σ = [.cell b_o0 (.int .i64 res.2.1), .cell b_o1 (.int .i64 res.2.2)])
  | 0, _, _, _, _, _, _, h => by cases h
  | fuel + 1, l_a0, c_0, c_1, b_o0, b_o1, res, h => lgs_normal_renamed_s2 fuel (lf_normal_renamed_s2 fuel) (lg_normal_renamed_s2 fuel) l_a0 c_0 c_1 b_o0 b_o1 res h

noncomputable def lf_normal_heads_s2_L0 (k : ((List At)) → (Int) → (Int) → Option ((List At) × Int × Int)) (fuel : Nat) : Nat → Int → Int → Int → (List At) → Option ((List At) × Int × Int)
  | 0, t11_3, l_4, l_5, a_6 =>
  (k a_6 l_4 l_5)
  | rest + 1, t11_3, l_4, l_5, a_6 =>
  ((getI a_6 t11_3).bind fun q_10 =>
  ((lf_normal_renamed_s2 fuel q_10.ts l_4 l_5).bind fun r_11 =>
  (lf_normal_heads_s2_L0 k fuel rest (t11_3 + 1) r_11.2.1 r_11.2.2 (a_6.set t11_3.toNat (⟨q_10.n, r_11.1⟩ : At)))))
noncomputable def lf_normal_heads_s2 (fuel : Nat) (l_a0 : (List At)) (c_0 : Int) (c_1 : Int) : Option ((List At) × Int × Int) :=
  ((appO 40 [] l_a0).bind fun l_1 =>
  (lf_normal_heads_s2_L0 (fun a_7 l_8 l_9 =>
  some (a_7, l_8, l_9)) fuel ((l_1.length : Int) - 0 : Int).toNat 0 c_0 c_1 l_1))

set_option maxHeartbeats 1000000 in
theorem lg_normal_heads_s2 (fuel : Nat) (l_a0 : (List At)) (c_0 : Int) (c_1 : Int) (b_o0 : Nat) (b_o1 : Nat) (res : (List At) × Int × Int) (hr : lf_normal_heads_s2 fuel l_a0 c_0 c_1 = some res) : Spec Try.prog 24 [.lst (l_a0.map encA), .clo (.func 35) [] [.ref b_o0 0 [], .ref b_o1 0 []]] [.cell b_o0 (.int .i64 c_0), .cell b_o1 (.int .i64 c_1)] (fun d σ => d = .lst (res.1.map encA) ∧ σ = [.cell b_o0 (.int .i64 res.2.1), .cell b_o1 (.int .i64 res.2.2)]) := by
  unfold lf_normal_heads_s2 at hr
  refine spec_env [(0, .lst (l_a0.map encA)), (1, .clo (.func 35) [] [.ref b_o0 0 [], .ref b_o1 0 []])] Try.func24 rfl rfl fun K hK => ?_
  refine g_seq ?_
  refine g_run (by kernel_rfl) [(0, .d)] rfl ?_
  refine r_d rfl rfl rfl (s_assign rfl rfl) ?_
  refine r_end ?_
  refine g_seq ?_
  refine g_run (by kernel_rfl) [(0, .d), (1, .w), (2, .d)] rfl ?_
  refine r_d rfl rfl rfl (s_move rfl rfl) ?_
  obtain ⟨l_1, hl_1, hr⟩ := bindS hr
  refine r_w rfl rfl rfl (s_call _ rfl cl_slices_Clone_api_Atom_api_Atom (.cons rfl (Wk.refl _) .nil) (by exact List.Perm.refl _) (lg_slices_Clone_api_Atom_api_Atom l_a0 _ hl_1)) ?_
  rintro _ _ ⟨_, ⟨b8_1, rfl, rfl⟩, rfl⟩
  refine r_st ((.arr b8_1 (l_1.map encA) 33 2) :: _) rfl ?_
  refine r_d rfl rfl rfl (s_assign rfl rfl) ?_
  refine r_end ?_
  refine g_seq ?_
  refine g_seq ?_
  refine g_run (by kernel_rfl) [(0, .d), (1, .d), (2, .d)] rfl ?_
  refine r_d rfl rfl rfl (s_move rfl rfl) ?_
  refine r_d rfl rfl rfl (s_lenA rfl Try.underlying22 rfl) ?_
  refine r_d rfl rfl rfl (s_move rfl rfl) ?_
  refine r_end ?_
  obtain ⟨kk0, hkk0, hr⟩ := exK (fun k => lf_normal_heads_s2_L0 k fuel ((l_1.length : Int) - 0 : Int).toNat 0 c_0 c_1 l_1) hr
  refine g_int 10 rfl fun hla0 => ?_
  refine g_blockJ (fun env σ => ∃ (a_7 : (List At)) (l_8 : Int) (l_9 : Int), env = [(5, .arr b8_1 2 0 l_1.length)] ∧ σ = [.arr b8_1 (a_7.map encA) 33 2, .cell b_o0 (.int .i64 l_8), .cell b_o1 (.int .i64 l_9)] ∧ a_7.length = l_1.length ∧ kk0 a_7 l_8 l_9 = some res) ?_ (fun HK0 => ?_)
  ·
   rintro _ _ ⟨a_7, l_8, l_9, rfl, rfl, hl_a_7, hr⟩
   rw [hkk0] at hr
   refine g_seq ?_
   refine g_run (by kernel_rfl) [(0, .d), (1, .d)] rfl ?_
   refine r_d rfl rfl rfl (s_move rfl rfl) ?_
   refine r_d rfl rfl rfl (s_assign rfl rfl) ?_
   refine r_end ?_
   refine g_freezeArr (l := a_7.map encA) 4 rfl (pf0 _) (by rw [List.length_map]; exact Eq.symm hl_a_7) ?_
   obtain rfl := Option.some.inj hr
   refine g_ret Try.func24 _ (.cons (resTmp rfl (Wk.refl _)) .nil) ?_
   exact ⟨rfl, rfl⟩
  ·
   refine g_sub [(1, .clo (.func 35) [] [.ref b_o0 0 [], .ref b_o1 0 []]), (5, .arr b8_1 2 0 l_1.length), (10, .int .i64 (l_1.length : Int)), (11, .int .i64 0)] (Sub.cons' rfl (Sub.cons' rfl (Sub.cons' rfl (Sub.cons' rfl (Sub.nil _))))) ?_
   refine g_perm [_, _, _] _ (((pf0 _).trans (pf2 _ _ _ _)).trans (pf2 _ _ _ _)) ?_
   refine g_loop (fun n env σ => ∃ (t11_3 : Int) (l_4 : Int) (l_5 : Int) (a_6 : (List At)) (m0 : Nat), (m0 = n) ∧ (env = [(1, .clo (.func 35) [] [.ref b_o0 0 [], .ref b_o1 0 []]), (5, .arr b8_1 2 0 l_1.length), (10, .int .i64 (l_1.length : Int)), (11, .int .i64 t11_3)]) ∧ (σ = [.cell b_o0 (.int .i64 l_4), .cell b_o1 (.int .i64 l_5), .arr b8_1 (a_6.map encA) 33 2]) ∧ (a_6.length = l_1.length) ∧ (m0 = ((l_1.length : Int) - t11_3 : Int).toNat) ∧ (lf_normal_heads_s2_L0 kk0 fuel m0 t11_3 l_4 l_5 a_6 = some res)) _ ⟨0, c_0, c_1, l_1, _, rfl, rfl, rfl, rfl, rfl, hr⟩ ?_
   rintro n _ _ ⟨t11_3, l_4, l_5, a_6, m0, rfl, rfl, rfl, hl_a_6, hi0, hr⟩ IH0
   refine g_int 11 rfl fun hb0 => ?_
   rcases cntStep t11_3 (l_1.length : Int) m0 hi0 with ⟨hm0, ht0⟩ | ⟨m0', hm0, ht0, hi0', hlt0⟩
   ·
    rw [hm0, lf_normal_heads_s2_L0] at hr
    refine g_seq ?_
    refine g_run (by kernel_rfl) [(0, .d)] rfl ?_
    refine r_d rfl rfl rfl (s_cmp rfl rfl rfl rfl) ?_
    refine r_end ?_
    refine g_seq ?_
    refine g_known 12 false rfl ht0 ?_
    refine g_condF rfl ?_
    refine g_exit rfl ?_
    refine g_sub [(5, .arr b8_1 2 0 l_1.length)] (Sub.cons' rfl (Sub.nil _)) ?_
    refine g_perm [_, _, _] _ (((pf1 _ _ _).trans (pf1 _ _ _)).trans (pf2 _ _ _ _)) ?_
    exact HK0 _ _ ⟨a_6, l_4, l_5, rfl, rfl, hl_a_6, hr⟩
   ·
    rw [hm0, lf_normal_heads_s2_L0] at hr
    refine g_seq ?_
    refine g_run (by kernel_rfl) [(0, .d)] rfl ?_
    refine r_d rfl rfl rfl (s_cmp rfl rfl rfl rfl) ?_
    refine r_end ?_
    refine g_seq ?_
    refine g_known 12 true rfl ht0 ?_
    refine g_condT rfl ?_
    refine g_skip ?_
    refine g_seq ?_
    refine g_block ?_
    refine g_seq ?_
    refine g_run (by kernel_rfl) [(0, .d), (1, .d)] rfl ?_
    refine r_d rfl rfl rfl (s_move rfl rfl) ?_
    refine r_d rfl rfl rfl (s_assign rfl rfl) ?_
    refine r_end ?_
    refine g_run (by kernel_rfl) [(0, .d), (1, .d), (2, .d), (3, .d), (4, .d), (5, .d), (6, .r), (7, .d), (8, .w), (9, .d), (10, .d), (11, .w)] rfl ?_
    refine r_d rfl rfl rfl (s_move rfl rfl) ?_
    refine r_d rfl rfl rfl (s_move rfl rfl) ?_
    refine r_d rfl rfl rfl (s_move rfl rfl) ?_
    refine r_d rfl rfl rfl (s_move rfl rfl) ?_
    obtain ⟨q_10, hq_10, hr⟩ := bindS hr
    have hq_10_n := (getI_some hq_10).2
    refine r_d rfl rfl rfl (m_indexArr0 a_6 rfl el_L_api_Atom rfl rfl hq_10 hl_a_6) ?_
    refine r_d rfl rfl rfl (s_fieldM rfl fl_api_Atom_1 rfl) ?_
    refine r_r rfl rfl rfl (t_loadM rfl rfl (.tail _ (.tail _ (.head _))) (getm hq_10_n) rfl rfl (by exact ty_L_api_Term) rfl) ?_
    refine r_d rfl rfl rfl (s_move rfl rfl) ?_
    obtain ⟨r_11, hr_11, hr⟩ := bindS hr
    refine r_w rfl rfl rfl (s_call _ rfl cl_normal_renamed (.cons rfl (Wk.refl _) (.cons rfl (Wk.refl _) .nil)) (by exact ((pf1 _ _ _).trans (pf1 _ _ _))) (lg_normal_renamed_s2 fuel _ _ _ _ _ _ hr_11)) ?_
    rintro _ _ ⟨_, ⟨rfl, rfl⟩, rfl⟩
    refine r_st ((.cell b_o0 (.int .i64 r_11.2.1)) :: (.cell b_o1 (.int .i64 r_11.2.2)) :: _) rfl ?_
    have hq_10_n := (getI_some hq_10).2
    refine r_d rfl rfl rfl (m_indexArr0 a_6 rfl el_L_api_Atom rfl rfl hq_10 hl_a_6) ?_
    refine r_d rfl rfl rfl (s_fieldM rfl fl_api_Atom_1 rfl) ?_
    refine r_w01 rfl rfl rfl (t_storeM _ rfl rfl rfl (Wk.refl _) (pf2 _ _ _ _) (getm hq_10_n) rfl rfl rfl (by exact ty_L_api_Term) rfl rfl rfl) ?_
    refine r_st [.arr b8_1 ((a_6.set t11_3.toNat (⟨q_10.n, r_11.1⟩ : At)).map encA) 33 2, .cell b_o0 (.int .i64 r_11.2.1), .cell b_o1 (.int .i64 r_11.2.2)] (by simp only [List.map_set]; rfl) ?_
    refine r_end ?_
    refine g_inBlock ?_
    refine g_run (by kernel_rfl) [(0, .d), (1, .d)] rfl ?_
    refine r_d rfl rfl rfl (s_ar (r := t11_3 + 1) rfl rfl rfl rfl (by omega)) ?_
    refine r_d rfl rfl rfl (s_move rfl rfl) ?_
    refine r_end ?_
    refine g_sub [(1, .clo (.func 35) [] [.ref b_o0 0 [], .ref b_o1 0 []]), (5, .arr b8_1 2 0 l_1.length), (10, .int .i64 (l_1.length : Int)), (11, .int .i64 (t11_3 + 1))] (Sub.cons' rfl (Sub.cons' rfl (Sub.cons' rfl (Sub.cons' rfl (Sub.nil _))))) ?_
    refine g_perm [_, _, _] _ (((pf0 _).trans (pf2 _ _ _ _)).trans (pf2 _ _ _ _)) ?_
    exact IH0 _ _ _ (by omega) ⟨(t11_3 + 1), r_11.2.1, r_11.2.2, (a_6.set t11_3.toNat (⟨q_10.n, r_11.1⟩ : At)), _, rfl, rfl, rfl, (List.length_set.trans hl_a_6), hi0', hr⟩

noncomputable def lf_normal_Join_L0 (k : (S_api_Rule) → Option (S_api_Rule)) (fuel : Nat) : Nat → Bool → S_api_Rule → Int → Int → Option (S_api_Rule)
  | 0, ok_8, r_9, x_10, y_11 =>
  none
  | rest + 1, ok_8, r_9, x_10, y_11 =>
  (bif ok_8 then
  ((lf_normal_heads_s2 fuel r_9.f1_Keep x_10 y_11).bind fun r_16 =>
  ((lf_normal_heads_s2 fuel r_9.f2_Remove r_16.2.1 r_16.2.2).bind fun r_17 =>
  ((subO r_9.f3_Guard 1 (r_9.f3_Guard.length : Int)).bind fun l_18 =>
  ((lf_normal_joining (⟨r_9.f0_Name, r_16.1, r_17.1, l_18, r_9.f4_Body, r_9.f5_Vars⟩ : S_api_Rule)).bind fun r_19 =>
  (lf_normal_Join_L0 k fuel rest r_19.2.2 (⟨r_9.f0_Name, r_16.1, r_17.1, l_18, r_9.f4_Body, r_9.f5_Vars⟩ : S_api_Rule) r_19.1 r_19.2.1)))))
  else
  (k r_9))
noncomputable def lf_normal_Join (fuel : Nat) (r_a0 : S_api_Rule) : Option (S_api_Rule) :=
  ((lf_normal_numbered fuel r_a0).bind fun r_3 =>
  (bif (!r_3) then
  some (r_a0)
  else
  ((lf_normal_joining r_a0).bind fun r_5 =>
  (lf_normal_Join_L0 (fun r_12 =>
  ((lf_source_Number fuel r_12).bind fun r_13 =>
  some (r_13))) fuel fuel r_5.2.2 r_a0 r_5.1 r_5.2.1))))

set_option maxHeartbeats 1000000 in
theorem lg_normal_Join (fuel : Nat) (r_a0 : S_api_Rule) (res : S_api_Rule) (hr : lf_normal_Join fuel r_a0 = some res) : Gives Try.prog 15 [enc_S_api_Rule r_a0] (enc_S_api_Rule res) := by
  unfold lf_normal_Join at hr
  refine spec_env [(0, enc_S_api_Rule r_a0)] Try.func15 rfl rfl fun K hK => ?_
  refine g_seq ?_
  refine g_run (by kernel_rfl) [(0, .w), (1, .w)] rfl ?_
  refine r_w rfl rfl rfl (s_boxRef rfl rfl rfl) ?_
  rintro _ _ ⟨b1_0, rfl, rfl⟩
  refine r_w rfl rfl rfl (s_alloc rfl zv_api_Rule) ?_
  rintro _ _ ⟨b2_1, rfl, rfl⟩
  refine r_end ?_
  refine g_seq ?_
  refine g_seq ?_
  refine g_run (by kernel_rfl) [(0, .r), (1, .d), (2, .d)] rfl ?_
  refine r_r rfl rfl rfl (t_loadRef rfl rfl (.tail _ (.head _)) rfl rfl (by exact ty_api_Rule) (sz_S_api_Rule _)) ?_
  obtain ⟨r_3, hr_3, hr⟩ := bindS hr
  refine r_d rfl rfl rfl (s_callD rfl cl_normal_numbered (.cons rfl (Wk.refl _) .nil) (lg_normal_numbered fuel _ _ hr_3)) ?_
  refine r_d rfl rfl rfl (s_not rfl rfl) ?_
  refine r_end ?_
  refine g_sB 9 rfl hr (fun h9_3 hr => ?_) (fun h9_3 hr => ?_)
  ·
   refine g_condT rfl ?_
   refine g_seq ?_
   refine g_run (by kernel_rfl) [(0, .r), (1, .w)] rfl ?_
   refine r_r rfl rfl rfl (t_loadRef rfl rfl (.tail _ (.head _)) rfl rfl (by exact ty_api_Rule) (sz_S_api_Rule _)) ?_
   refine r_w01 rfl rfl rfl (t_store0 _ rfl rfl rfl (Wk.refl _) (pf0 _) (by exact ty_api_Rule) (sz_S_api_Rule _) rfl rfl) ?_
   refine r_end ?_
   obtain rfl := Option.some.inj hr
   refine g_ret Try.func15 _ (.cons (resRef rfl (.head _) (by exact ty_api_Rule) (sz_S_api_Rule _) (Wk.refl _)) .nil) ?_
   rfl
  ·
   refine g_condF rfl ?_
   refine g_skip ?_
   refine g_seq ?_
   refine g_seq ?_
   refine g_run (by kernel_rfl) [(0, .r), (1, .d), (2, .d), (3, .d), (4, .d), (5, .d), (6, .w), (7, .w), (8, .w), (9, .w), (10, .d)] rfl ?_
   refine r_r rfl rfl rfl (t_loadRef rfl rfl (.tail _ (.head _)) rfl rfl (by exact ty_api_Rule) (sz_S_api_Rule _)) ?_
   obtain ⟨r_5, hr_5, hr⟩ := bindS hr
   refine r_d rfl rfl rfl (s_callD rfl cl_normal_joining (.cons rfl (Wk.refl _) .nil) (lg_normal_joining _ _ hr_5)) ?_
   refine r_d rfl rfl rfl (s_move rfl rfl) ?_
   refine r_d rfl rfl rfl (s_extract rfl rfl rfl) ?_
   refine r_d rfl rfl rfl (s_extract rfl rfl rfl) ?_
   refine r_d rfl rfl rfl (s_extract rfl rfl rfl) ?_
   refine r_w rfl rfl rfl (s_alloc rfl zv_int) ?_
   rintro _ _ ⟨b3_5, rfl, rfl⟩
   refine r_w rfl rfl rfl (s_alloc rfl zv_int) ?_
   rintro _ _ ⟨b4_6, rfl, rfl⟩
   refine r_w01 rfl rfl rfl (t_store0 _ rfl rfl rfl (Wk.refl _) (pf1 _ _ _) (by exact ty_int) rfl rfl rfl) ?_
   refine r_w01 rfl rfl rfl (t_store0 _ rfl rfl rfl (Wk.refl _) (pf1 _ _ _) (by exact ty_int) rfl rfl rfl) ?_
   refine r_d rfl rfl rfl (s_assign rfl rfl) ?_
   refine r_end ?_
   obtain ⟨kk0, hkk0, hr⟩ := exK (fun k => lf_normal_Join_L0 k fuel fuel r_5.2.2 r_a0 r_5.1 r_5.2.1) hr
   refine g_blockJ (fun env σ => ∃ (r_12 : S_api_Rule), env = [(1, .ref b1_0 0 []), (2, .ref b2_1 0 [])] ∧ σ = [.cell b1_0 (enc_S_api_Rule r_12), .cell b2_1 (.agg [.str ⟨#[]⟩, .lst ([].map encA), .lst ([].map encA), .lst ([].map encG), .lst ([].map encG), .int .i64 0])] ∧ kk0 r_12 = some res) ?_ (fun HK0 => ?_)
   ·
    rintro _ _ ⟨r_12, rfl, rfl, hr⟩
    rw [hkk0] at hr
    refine g_seq ?_
    refine g_run (by kernel_rfl) [(0, .r), (1, .d), (2, .w)] rfl ?_
    refine r_r rfl rfl rfl (t_loadRef rfl rfl (.head _) rfl rfl (by exact ty_api_Rule) (sz_S_api_Rule _)) ?_
    obtain ⟨r_13, hr_13, hr⟩ := bindS hr
    refine r_d rfl rfl rfl (s_callD rfl cl_source_Number (.cons rfl (Wk.refl _) .nil) (lg_source_Number fuel _ _ hr_13)) ?_
    refine r_w01 rfl rfl rfl (t_store0 _ rfl rfl rfl (Wk.refl _) (pf1 _ _ _) (by exact ty_api_Rule) (sz_S_api_Rule _) rfl rfl) ?_
    refine r_end ?_
    obtain rfl := Option.some.inj hr
    refine g_ret Try.func15 _ (.cons (resRef rfl (.head _) (by exact ty_api_Rule) (sz_S_api_Rule _) (Wk.refl _)) .nil) ?_
    rfl
   ·
    refine g_sub [(1, .ref b1_0 0 []), (2, .ref b2_1 0 []), (3, .ref b3_5 0 []), (4, .ref b4_6 0 []), (5, .bool r_5.2.2)] (Sub.cons' rfl (Sub.cons' rfl (Sub.cons' rfl (Sub.cons' rfl (Sub.cons' rfl (Sub.nil _)))))) ?_
    refine g_perm [_, _, _, _] _ ((((pf0 _).trans (pf1 _ _ _)).trans (pf2 _ _ _ _)).trans (pf3 _ _ _ _ _)) ?_
    refine g_loop (fun n env σ => ∃ (ok_8 : Bool) (r_9 : S_api_Rule) (x_10 : Int) (y_11 : Int) (n0 b3_5 b4_6 : Nat), (n0 = n) ∧ (env = [(1, .ref b1_0 0 []), (2, .ref b2_1 0 []), (3, .ref b3_5 0 []), (4, .ref b4_6 0 []), (5, .bool ok_8)]) ∧ (σ = [.cell b1_0 (enc_S_api_Rule r_9), .cell b2_1 (.agg [.str ⟨#[]⟩, .lst ([].map encA), .lst ([].map encA), .lst ([].map encG), .lst ([].map encG), .int .i64 0]), .cell b3_5 (.int .i64 x_10), .cell b4_6 (.int .i64 y_11)]) ∧ (lf_normal_Join_L0 kk0 fuel n0 ok_8 r_9 x_10 y_11 = some res)) _ ⟨r_5.2.2, r_a0, r_5.1, r_5.2.1, _, b3_5, b4_6, rfl, rfl, rfl, hr⟩ ?_
    rintro n _ _ ⟨ok_8, r_9, x_10, y_11, n0, b3_5, b4_6, rfl, rfl, rfl, hr⟩ IH0
    cases n0 with
    | zero => rw [lf_normal_Join_L0] at hr; cases hr
    | succ n0 =>
     rw [lf_normal_Join_L0] at hr
     refine g_seq ?_
     refine g_seq ?_
     refine g_run (by kernel_rfl) [(0, .d)] rfl ?_
     refine r_d rfl rfl rfl (s_move rfl rfl) ?_
     refine r_end ?_
     refine g_sB 17 rfl hr (fun h17_13 hr => ?_) (fun h17_13 hr => ?_)
     ·
      refine g_condT rfl ?_
      refine g_skip ?_
      refine g_seq ?_
      refine g_block ?_
      refine g_seq ?_
      refine g_run (by kernel_rfl) [(0, .d), (1, .d)] rfl ?_
      refine r_d rfl rfl rfl (s_makeFunc rfl rfl rfl) ?_
      refine r_d rfl rfl rfl (s_assign rfl rfl) ?_
      refine r_end ?_
      obtain ⟨r_16, hr_16, hr⟩ := bindS hr
      obtain ⟨r_17, hr_17, hr⟩ := bindS hr
      obtain ⟨l_18, hl_18, hr⟩ := bindS hr
      refine g_plan (by kernel_rfl) (by kernel_rfl) [(0, .d), (2, .d), (4, .d), (6, .d), (8, .d)] (.cons 1 [] (.cons 3 [] (.cons 5 [] (.cons 7 [] (.cons 9 [(10, .d), (11, .d)] (.cons 12 [(13, .d)] (.cons 14 [(15, .d)] (.cons 16 [] .nil .nil) .nil) .nil) .nil) (.cons 9 [(10, .d), (11, .d)] (.cons 7 [] (.cons 12 [(13, .d)] (.cons 14 [(15, .d)] (.cons 16 [] .nil .nil) .nil) .nil) .nil) .nil)) (.cons 9 [(10, .d)] (.cons 5 [(11, .d)] (.cons 7 [] (.cons 12 [(13, .d)] (.cons 14 [(15, .d)] (.cons 16 [] .nil .nil) .nil) .nil) .nil) .nil) .nil)) (.cons 5 [] (.cons 3 [] (.cons 7 [] (.cons 9 [(10, .d), (11, .d)] (.cons 12 [(13, .d)] (.cons 14 [(15, .d)] (.cons 16 [] .nil .nil) .nil) .nil) .nil) (.cons 9 [(10, .d), (11, .d)] (.cons 7 [] (.cons 12 [(13, .d)] (.cons 14 [(15, .d)] (.cons 16 [] .nil .nil) .nil) .nil) .nil) .nil)) (.cons 9 [(10, .d)] (.cons 3 [(11, .d)] (.cons 7 [] (.cons 12 [(13, .d)] (.cons 14 [(15, .d)] (.cons 16 [] .nil .nil) .nil) .nil) .nil) .nil) .nil)) (.cons 9 [(10, .d)] (.cons 3 [] (.cons 5 [(11, .d)] (.cons 7 [] (.cons 12 [(13, .d)] (.cons 14 [(15, .d)] (.cons 16 [] .nil .nil) .nil) .nil) .nil) .nil) (.cons 5 [] (.cons 3 [(11, .d)] (.cons 7 [] (.cons 12 [(13, .d)] (.cons 14 [(15, .d)] (.cons 16 [] .nil .nil) .nil) .nil) .nil) .nil) .nil)) .nil))) (.cons 5 [] (.cons 1 [] (.cons 3 [] (.cons 7 [] (.cons 9 [(10, .d), (11, .d)] (.cons 12 [(13, .d)] (.cons 14 [(15, .d)] (.cons 16 [] .nil .nil) .nil) .nil) .nil) (.cons 9 [(10, .d), (11, .d)] (.cons 7 [] (.cons 12 [(13, .d)] (.cons 14 [(15, .d)] (.cons 16 [] .nil .nil) .nil) .nil) .nil) .nil)) (.cons 9 [(10, .d)] (.cons 3 [(11, .d)] (.cons 7 [] (.cons 12 [(13, .d)] (.cons 14 [(15, .d)] (.cons 16 [] .nil .nil) .nil) .nil) .nil) .nil) .nil)) (.cons 9 [(10, .d)] (.cons 1 [] (.cons 3 [(11, .d)] (.cons 7 [] (.cons 12 [(13, .d)] (.cons 14 [(15, .d)] (.cons 16 [] .nil .nil) .nil) .nil) .nil) .nil) .nil) .nil)) (.cons 9 [(10, .d)] (.cons 1 [] (.cons 3 [] (.cons 5 [(11, .d)] (.cons 7 [] (.cons 12 [(13, .d)] (.cons 14 [(15, .d)] (.cons 16 [] .nil .nil) .nil) .nil) .nil) .nil) (.cons 5 [] (.cons 3 [(11, .d)] (.cons 7 [] (.cons 12 [(13, .d)] (.cons 14 [(15, .d)] (.cons 16 [] .nil .nil) .nil) .nil) .nil) .nil) .nil)) (.cons 5 [] (.cons 1 [] (.cons 3 [(11, .d)] (.cons 7 [] (.cons 12 [(13, .d)] (.cons 14 [(15, .d)] (.cons 16 [] .nil .nil) .nil) .nil) .nil) .nil) .nil) .nil)) .nil))) (by kernel_rfl) (fun env σ => Sub [(1, .ref b1_0 0 []), (2, .ref b2_1 0 []), (3, .ref b3_5 0 []), (4, .ref b4_6 0 [])] env ∧ σ.Perm [.cell b1_0 (.agg [.str r_9.f0_Name, .lst (r_16.1.map encA), .lst (r_17.1.map encA), .lst (l_18.map encG), .lst (r_9.f4_Body.map encG), .int .i64 r_9.f5_Vars]), .cell b3_5 (.int .i64 r_17.2.1), .cell b4_6 (.int .i64 r_17.2.2), .cell b2_1 (.agg [.str ⟨#[]⟩, .lst ([].map encA), .lst ([].map encA), .lst ([].map encG), .lst ([].map encG), .int .i64 0])]) ?_ ?_
      ·
       refine r_d rfl rfl rfl (s_fieldRef rfl fl_api_Rule_1 rfl) ?_
       refine r_d rfl rfl rfl (s_move rfl rfl) ?_
       refine r_d rfl rfl rfl (s_fieldRef rfl fl_api_Rule_2 rfl) ?_
       refine r_d rfl rfl rfl (s_move rfl rfl) ?_
       refine r_d rfl rfl rfl (s_fieldRef rfl fl_api_Rule_3 rfl) ?_
       refine r_end ?_
       refine p_alt ?_ ?_
       ·
        refine r_wr rfl rfl rfl (t_loadRef rfl rfl (.head _) rfl rfl (by exact ty_L_api_Atom) rfl) ?_
        refine r_end ?_
        refine p_alt ?_ ?_
        ·
         refine r_w rfl rfl rfl (s_call _ rfl cl_normal_heads (.cons rfl (Wk.refl _) (.cons rfl (Wk.refl _) .nil)) (by exact ((pf3 _ _ _ _ _).trans (pf3 _ _ _ _ _))) (lg_normal_heads_s2 fuel _ _ _ _ _ _ hr_16)) ?_
         rintro _ _ ⟨_, ⟨rfl, rfl⟩, rfl⟩
         refine r_st ((.cell b3_5 (.int .i64 r_16.2.1)) :: (.cell b4_6 (.int .i64 r_16.2.2)) :: _) rfl ?_
         refine r_end ?_
         refine p_alt ?_ ?_
         ·
          refine r_wr rfl rfl rfl (t_loadRef rfl rfl (.tail _ (.tail _ (.head _))) rfl rfl (by exact ty_L_api_Atom) rfl) ?_
          refine r_end ?_
          refine p_alt ?_ ?_
          ·
           refine r_w rfl rfl rfl (s_call _ rfl cl_normal_heads (.cons rfl (Wk.refl _) (.cons rfl (Wk.refl _) .nil)) (by exact ((pf1 _ _ _).trans (pf1 _ _ _))) (lg_normal_heads_s2 fuel _ _ _ _ _ _ hr_17)) ?_
           rintro _ _ ⟨_, ⟨rfl, rfl⟩, rfl⟩
           refine r_st ((.cell b3_5 (.int .i64 r_17.2.1)) :: (.cell b4_6 (.int .i64 r_17.2.2)) :: _) rfl ?_
           refine r_end ?_
           refine p_alt ?_ p_no
           refine r_wr rfl rfl rfl (t_loadRef rfl rfl (.tail _ (.tail _ (.head _))) rfl rfl (by exact ty_L_api_Goal) rfl) ?_
           refine r_d rfl rfl rfl (m_sub (f := encG) r_9.f3_Guard 1 (r_9.f3_Guard.length : Int) rfl el_L_api_Goal rfl (asl rfl) (bl_some rfl) bh_none sz_encG hl_18) ?_
           refine r_d rfl rfl rfl (s_fieldRef rfl fl_api_Rule_1 rfl) ?_
           refine r_end ?_
           refine p_alt ?_ p_no
           refine r_w01 rfl rfl rfl (t_store _ rfl rfl rfl (Wk.refl _) (pf2 _ _ _ _) rfl rfl (by exact ty_L_api_Atom) rfl rfl rfl) ?_
           refine r_d rfl rfl rfl (s_fieldRef rfl fl_api_Rule_2 rfl) ?_
           refine r_end ?_
           refine p_alt ?_ p_no
           refine r_w01 rfl rfl rfl (t_store _ rfl rfl rfl (Wk.refl _) (pf0 _) rfl rfl (by exact ty_L_api_Atom) rfl rfl rfl) ?_
           refine r_d rfl rfl rfl (s_fieldRef rfl fl_api_Rule_3 rfl) ?_
           refine r_end ?_
           refine p_alt ?_ p_no
           refine r_w01 rfl rfl rfl (t_store _ rfl rfl rfl (Wk.refl _) (pf0 _) rfl rfl (by exact ty_L_api_Goal) rfl rfl rfl) ?_
           refine r_end ?_
           refine p_end ?_
           exact ⟨(Sub.cons' rfl (Sub.cons' rfl (Sub.cons' rfl (Sub.cons' rfl (Sub.nil _))))), ((((pf3 _ _ _ _ _).trans (pf3 _ _ _ _ _)).trans (pf3 _ _ _ _ _)).trans (pf3 _ _ _ _ _))⟩
          refine p_alt ?_ p_no
          refine r_wr rfl rfl rfl (t_loadRef rfl rfl (.tail _ (.tail _ (.head _))) rfl rfl (by exact ty_L_api_Goal) rfl) ?_
          refine r_d rfl rfl rfl (m_sub (f := encG) r_9.f3_Guard 1 (r_9.f3_Guard.length : Int) rfl el_L_api_Goal rfl (asl rfl) (bl_some rfl) bh_none sz_encG hl_18) ?_
          refine r_d rfl rfl rfl (s_fieldRef rfl fl_api_Rule_1 rfl) ?_
          refine r_end ?_
          refine p_alt ?_ p_no
          refine r_w rfl rfl rfl (s_call _ rfl cl_normal_heads (.cons rfl (Wk.refl _) (.cons rfl (Wk.refl _) .nil)) (by exact ((pf1 _ _ _).trans (pf1 _ _ _))) (lg_normal_heads_s2 fuel _ _ _ _ _ _ hr_17)) ?_
          rintro _ _ ⟨_, ⟨rfl, rfl⟩, rfl⟩
          refine r_st ((.cell b3_5 (.int .i64 r_17.2.1)) :: (.cell b4_6 (.int .i64 r_17.2.2)) :: _) rfl ?_
          refine r_end ?_
          refine p_alt ?_ p_no
          refine r_w01 rfl rfl rfl (t_store _ rfl rfl rfl (Wk.refl _) (pf2 _ _ _ _) rfl rfl (by exact ty_L_api_Atom) rfl rfl rfl) ?_
          refine r_d rfl rfl rfl (s_fieldRef rfl fl_api_Rule_2 rfl) ?_
          refine r_end ?_
          refine p_alt ?_ p_no
          refine r_w01 rfl rfl rfl (t_store _ rfl rfl rfl (Wk.refl _) (pf0 _) rfl rfl (by exact ty_L_api_Atom) rfl rfl rfl) ?_
          refine r_d rfl rfl rfl (s_fieldRef rfl fl_api_Rule_3 rfl) ?_
          refine r_end ?_
          refine p_alt ?_ p_no
          refine r_w01 rfl rfl rfl (t_store _ rfl rfl rfl (Wk.refl _) (pf0 _) rfl rfl (by exact ty_L_api_Goal) rfl rfl rfl) ?_
          refine r_end ?_
          refine p_end ?_
          exact ⟨(Sub.cons' rfl (Sub.cons' rfl (Sub.cons' rfl (Sub.cons' rfl (Sub.nil _))))), ((((pf3 _ _ _ _ _).trans (pf3 _ _ _ _ _)).trans (pf3 _ _ _ _ _)).trans (pf3 _ _ _ _ _))⟩
         refine p_alt ?_ p_no
         refine r_wr rfl rfl rfl (t_loadRef rfl rfl (.tail _ (.tail _ (.head _))) rfl rfl (by exact ty_L_api_Goal) rfl) ?_
         refine r_d rfl rfl rfl (m_sub (f := encG) r_9.f3_Guard 1 (r_9.f3_Guard.length : Int) rfl el_L_api_Goal rfl (asl rfl) (bl_some rfl) bh_none sz_encG hl_18) ?_
         refine r_end ?_
         refine p_alt ?_ p_no
         refine r_wr rfl rfl rfl (t_loadRef rfl rfl (.tail _ (.tail _ (.head _))) rfl rfl (by exact ty_L_api_Atom) rfl) ?_
         refine r_d rfl rfl rfl (s_fieldRef rfl fl_api_Rule_1 rfl) ?_
         refine r_end ?_
         refine p_alt ?_ p_no
         refine r_w rfl rfl rfl (s_call _ rfl cl_normal_heads (.cons rfl (Wk.refl _) (.cons rfl (Wk.refl _) .nil)) (by exact ((pf1 _ _ _).trans (pf1 _ _ _))) (lg_normal_heads_s2 fuel _ _ _ _ _ _ hr_17)) ?_
         rintro _ _ ⟨_, ⟨rfl, rfl⟩, rfl⟩
         refine r_st ((.cell b3_5 (.int .i64 r_17.2.1)) :: (.cell b4_6 (.int .i64 r_17.2.2)) :: _) rfl ?_
         refine r_end ?_
         refine p_alt ?_ p_no
         refine r_w01 rfl rfl rfl (t_store _ rfl rfl rfl (Wk.refl _) (pf2 _ _ _ _) rfl rfl (by exact ty_L_api_Atom) rfl rfl rfl) ?_
         refine r_d rfl rfl rfl (s_fieldRef rfl fl_api_Rule_2 rfl) ?_
         refine r_end ?_
         refine p_alt ?_ p_no
         refine r_w01 rfl rfl rfl (t_store _ rfl rfl rfl (Wk.refl _) (pf0 _) rfl rfl (by exact ty_L_api_Atom) rfl rfl rfl) ?_
         refine r_d rfl rfl rfl (s_fieldRef rfl fl_api_Rule_3 rfl) ?_
         refine r_end ?_
         refine p_alt ?_ p_no
         refine r_w01 rfl rfl rfl (t_store _ rfl rfl rfl (Wk.refl _) (pf0 _) rfl rfl (by exact ty_L_api_Goal) rfl rfl rfl) ?_
         refine r_end ?_
         refine p_end ?_
         exact ⟨(Sub.cons' rfl (Sub.cons' rfl (Sub.cons' rfl (Sub.cons' rfl (Sub.nil _))))), ((((pf3 _ _ _ _ _).trans (pf3 _ _ _ _ _)).trans (pf3 _ _ _ _ _)).trans (pf3 _ _ _ _ _))⟩
        refine p_alt ?_ ?_
        ·
         refine r_wr rfl rfl rfl (t_loadRef rfl rfl (.head _) rfl rfl (by exact ty_L_api_Atom) rfl) ?_
         refine r_end ?_
         refine p_alt ?_ ?_
         ·
          refine r_w rfl rfl rfl (s_call _ rfl cl_normal_heads (.cons rfl (Wk.refl _) (.cons rfl (Wk.refl _) .nil)) (by exact ((pf3 _ _ _ _ _).trans (pf3 _ _ _ _ _))) (lg_normal_heads_s2 fuel _ _ _ _ _ _ hr_16)) ?_
          rintro _ _ ⟨_, ⟨rfl, rfl⟩, rfl⟩
          refine r_st ((.cell b3_5 (.int .i64 r_16.2.1)) :: (.cell b4_6 (.int .i64 r_16.2.2)) :: _) rfl ?_
          refine r_end ?_
          refine p_alt ?_ ?_
          ·
           refine r_w rfl rfl rfl (s_call _ rfl cl_normal_heads (.cons rfl (Wk.refl _) (.cons rfl (Wk.refl _) .nil)) (by exact ((pf1 _ _ _).trans (pf1 _ _ _))) (lg_normal_heads_s2 fuel _ _ _ _ _ _ hr_17)) ?_
           rintro _ _ ⟨_, ⟨rfl, rfl⟩, rfl⟩
           refine r_st ((.cell b3_5 (.int .i64 r_17.2.1)) :: (.cell b4_6 (.int .i64 r_17.2.2)) :: _) rfl ?_
           refine r_end ?_
           refine p_alt ?_ p_no
           refine r_wr rfl rfl rfl (t_loadRef rfl rfl (.tail _ (.tail _ (.head _))) rfl rfl (by exact ty_L_api_Goal) rfl) ?_
           refine r_d rfl rfl rfl (m_sub (f := encG) r_9.f3_Guard 1 (r_9.f3_Guard.length : Int) rfl el_L_api_Goal rfl (asl rfl) (bl_some rfl) bh_none sz_encG hl_18) ?_
           refine r_d rfl rfl rfl (s_fieldRef rfl fl_api_Rule_1 rfl) ?_
           refine r_end ?_
           refine p_alt ?_ p_no
           refine r_w01 rfl rfl rfl (t_store _ rfl rfl rfl (Wk.refl _) (pf2 _ _ _ _) rfl rfl (by exact ty_L_api_Atom) rfl rfl rfl) ?_
           refine r_d rfl rfl rfl (s_fieldRef rfl fl_api_Rule_2 rfl) ?_
           refine r_end ?_
           refine p_alt ?_ p_no
           refine r_w01 rfl rfl rfl (t_store _ rfl rfl rfl (Wk.refl _) (pf0 _) rfl rfl (by exact ty_L_api_Atom) rfl rfl rfl) ?_
           refine r_d rfl rfl rfl (s_fieldRef rfl fl_api_Rule_3 rfl) ?_
           refine r_end ?_
           refine p_alt ?_ p_no
           refine r_w01 rfl rfl rfl (t_store _ rfl rfl rfl (Wk.refl _) (pf0 _) rfl rfl (by exact ty_L_api_Goal) rfl rfl rfl) ?_
           refine r_end ?_
           refine p_end ?_
           exact ⟨(Sub.cons' rfl (Sub.cons' rfl (Sub.cons' rfl (Sub.cons' rfl (Sub.nil _))))), ((((pf3 _ _ _ _ _).trans (pf3 _ _ _ _ _)).trans (pf3 _ _ _ _ _)).trans (pf3 _ _ _ _ _))⟩
          refine p_alt ?_ p_no
          refine r_wr rfl rfl rfl (t_loadRef rfl rfl (.tail _ (.tail _ (.head _))) rfl rfl (by exact ty_L_api_Goal) rfl) ?_
          refine r_d rfl rfl rfl (m_sub (f := encG) r_9.f3_Guard 1 (r_9.f3_Guard.length : Int) rfl el_L_api_Goal rfl (asl rfl) (bl_some rfl) bh_none sz_encG hl_18) ?_
          refine r_d rfl rfl rfl (s_fieldRef rfl fl_api_Rule_1 rfl) ?_
          refine r_end ?_
          refine p_alt ?_ p_no
          refine r_w rfl rfl rfl (s_call _ rfl cl_normal_heads (.cons rfl (Wk.refl _) (.cons rfl (Wk.refl _) .nil)) (by exact ((pf1 _ _ _).trans (pf1 _ _ _))) (lg_normal_heads_s2 fuel _ _ _ _ _ _ hr_17)) ?_
          rintro _ _ ⟨_, ⟨rfl, rfl⟩, rfl⟩
          refine r_st ((.cell b3_5 (.int .i64 r_17.2.1)) :: (.cell b4_6 (.int .i64 r_17.2.2)) :: _) rfl ?_
          refine r_end ?_
          refine p_alt ?_ p_no
          refine r_w01 rfl rfl rfl (t_store _ rfl rfl rfl (Wk.refl _) (pf2 _ _ _ _) rfl rfl (by exact ty_L_api_Atom) rfl rfl rfl) ?_
          refine r_d rfl rfl rfl (s_fieldRef rfl fl_api_Rule_2 rfl) ?_
          refine r_end ?_
          refine p_alt ?_ p_no
          refine r_w01 rfl rfl rfl (t_store _ rfl rfl rfl (Wk.refl _) (pf0 _) rfl rfl (by exact ty_L_api_Atom) rfl rfl rfl) ?_
          refine r_d rfl rfl rfl (s_fieldRef rfl fl_api_Rule_3 rfl) ?_
          refine r_end ?_
          refine p_alt ?_ p_no
          refine r_w01 rfl rfl rfl (t_store _ rfl rfl rfl (Wk.refl _) (pf0 _) rfl rfl (by exact ty_L_api_Goal) rfl rfl rfl) ?_
          refine r_end ?_
          refine p_end ?_
          exact ⟨(Sub.cons' rfl (Sub.cons' rfl (Sub.cons' rfl (Sub.cons' rfl (Sub.nil _))))), ((((pf3 _ _ _ _ _).trans (pf3 _ _ _ _ _)).trans (pf3 _ _ _ _ _)).trans (pf3 _ _ _ _ _))⟩
         refine p_alt ?_ p_no
         refine r_wr rfl rfl rfl (t_loadRef rfl rfl (.head _) rfl rfl (by exact ty_L_api_Goal) rfl) ?_
         refine r_d rfl rfl rfl (m_sub (f := encG) r_9.f3_Guard 1 (r_9.f3_Guard.length : Int) rfl el_L_api_Goal rfl (asl rfl) (bl_some rfl) bh_none sz_encG hl_18) ?_
         refine r_end ?_
         refine p_alt ?_ p_no
         refine r_w rfl rfl rfl (s_call _ rfl cl_normal_heads (.cons rfl (Wk.refl _) (.cons rfl (Wk.refl _) .nil)) (by exact ((pf3 _ _ _ _ _).trans (pf3 _ _ _ _ _))) (lg_normal_heads_s2 fuel _ _ _ _ _ _ hr_16)) ?_
         rintro _ _ ⟨_, ⟨rfl, rfl⟩, rfl⟩
         refine r_st ((.cell b3_5 (.int .i64 r_16.2.1)) :: (.cell b4_6 (.int .i64 r_16.2.2)) :: _) rfl ?_
         refine r_d rfl rfl rfl (s_fieldRef rfl fl_api_Rule_1 rfl) ?_
         refine r_end ?_
         refine p_alt ?_ p_no
         refine r_w rfl rfl rfl (s_call _ rfl cl_normal_heads (.cons rfl (Wk.refl _) (.cons rfl (Wk.refl _) .nil)) (by exact ((pf1 _ _ _).trans (pf1 _ _ _))) (lg_normal_heads_s2 fuel _ _ _ _ _ _ hr_17)) ?_
         rintro _ _ ⟨_, ⟨rfl, rfl⟩, rfl⟩
         refine r_st ((.cell b3_5 (.int .i64 r_17.2.1)) :: (.cell b4_6 (.int .i64 r_17.2.2)) :: _) rfl ?_
         refine r_end ?_
         refine p_alt ?_ p_no
         refine r_w01 rfl rfl rfl (t_store _ rfl rfl rfl (Wk.refl _) (pf2 _ _ _ _) rfl rfl (by exact ty_L_api_Atom) rfl rfl rfl) ?_
         refine r_d rfl rfl rfl (s_fieldRef rfl fl_api_Rule_2 rfl) ?_
         refine r_end ?_
         refine p_alt ?_ p_no
         refine r_w01 rfl rfl rfl (t_store _ rfl rfl rfl (Wk.refl _) (pf0 _) rfl rfl (by exact ty_L_api_Atom) rfl rfl rfl) ?_
         refine r_d rfl rfl rfl (s_fieldRef rfl fl_api_Rule_3 rfl) ?_
         refine r_end ?_
         refine p_alt ?_ p_no
         refine r_w01 rfl rfl rfl (t_store _ rfl rfl rfl (Wk.refl _) (pf0 _) rfl rfl (by exact ty_L_api_Goal) rfl rfl rfl) ?_
         refine r_end ?_
         refine p_end ?_
         exact ⟨(Sub.cons' rfl (Sub.cons' rfl (Sub.cons' rfl (Sub.cons' rfl (Sub.nil _))))), ((((pf3 _ _ _ _ _).trans (pf3 _ _ _ _ _)).trans (pf3 _ _ _ _ _)).trans (pf3 _ _ _ _ _))⟩
        refine p_alt ?_ p_no
        refine r_wr rfl rfl rfl (t_loadRef rfl rfl (.head _) rfl rfl (by exact ty_L_api_Goal) rfl) ?_
        refine r_d rfl rfl rfl (m_sub (f := encG) r_9.f3_Guard 1 (r_9.f3_Guard.length : Int) rfl el_L_api_Goal rfl (asl rfl) (bl_some rfl) bh_none sz_encG hl_18) ?_
        refine r_end ?_
        refine p_alt ?_ ?_
        ·
         refine r_w rfl rfl rfl (s_call _ rfl cl_normal_heads (.cons rfl (Wk.refl _) (.cons rfl (Wk.refl _) .nil)) (by exact ((pf3 _ _ _ _ _).trans (pf3 _ _ _ _ _))) (lg_normal_heads_s2 fuel _ _ _ _ _ _ hr_16)) ?_
         rintro _ _ ⟨_, ⟨rfl, rfl⟩, rfl⟩
         refine r_st ((.cell b3_5 (.int .i64 r_16.2.1)) :: (.cell b4_6 (.int .i64 r_16.2.2)) :: _) rfl ?_
         refine r_end ?_
         refine p_alt ?_ p_no
         refine r_wr rfl rfl rfl (t_loadRef rfl rfl (.tail _ (.tail _ (.head _))) rfl rfl (by exact ty_L_api_Atom) rfl) ?_
         refine r_d rfl rfl rfl (s_fieldRef rfl fl_api_Rule_1 rfl) ?_
         refine r_end ?_
         refine p_alt ?_ p_no
         refine r_w rfl rfl rfl (s_call _ rfl cl_normal_heads (.cons rfl (Wk.refl _) (.cons rfl (Wk.refl _) .nil)) (by exact ((pf1 _ _ _).trans (pf1 _ _ _))) (lg_normal_heads_s2 fuel _ _ _ _ _ _ hr_17)) ?_
         rintro _ _ ⟨_, ⟨rfl, rfl⟩, rfl⟩
         refine r_st ((.cell b3_5 (.int .i64 r_17.2.1)) :: (.cell b4_6 (.int .i64 r_17.2.2)) :: _) rfl ?_
         refine r_end ?_
         refine p_alt ?_ p_no
         refine r_w01 rfl rfl rfl (t_store _ rfl rfl rfl (Wk.refl _) (pf2 _ _ _ _) rfl rfl (by exact ty_L_api_Atom) rfl rfl rfl) ?_
         refine r_d rfl rfl rfl (s_fieldRef rfl fl_api_Rule_2 rfl) ?_
         refine r_end ?_
         refine p_alt ?_ p_no
         refine r_w01 rfl rfl rfl (t_store _ rfl rfl rfl (Wk.refl _) (pf0 _) rfl rfl (by exact ty_L_api_Atom) rfl rfl rfl) ?_
         refine r_d rfl rfl rfl (s_fieldRef rfl fl_api_Rule_3 rfl) ?_
         refine r_end ?_
         refine p_alt ?_ p_no
         refine r_w01 rfl rfl rfl (t_store _ rfl rfl rfl (Wk.refl _) (pf0 _) rfl rfl (by exact ty_L_api_Goal) rfl rfl rfl) ?_
         refine r_end ?_
         refine p_end ?_
         exact ⟨(Sub.cons' rfl (Sub.cons' rfl (Sub.cons' rfl (Sub.cons' rfl (Sub.nil _))))), ((((pf3 _ _ _ _ _).trans (pf3 _ _ _ _ _)).trans (pf3 _ _ _ _ _)).trans (pf3 _ _ _ _ _))⟩
        refine p_alt ?_ p_no
        refine r_wr rfl rfl rfl (t_loadRef rfl rfl (.head _) rfl rfl (by exact ty_L_api_Atom) rfl) ?_
        refine r_end ?_
        refine p_alt ?_ p_no
        refine r_w rfl rfl rfl (s_call _ rfl cl_normal_heads (.cons rfl (Wk.refl _) (.cons rfl (Wk.refl _) .nil)) (by exact ((pf3 _ _ _ _ _).trans (pf3 _ _ _ _ _))) (lg_normal_heads_s2 fuel _ _ _ _ _ _ hr_16)) ?_
        rintro _ _ ⟨_, ⟨rfl, rfl⟩, rfl⟩
        refine r_st ((.cell b3_5 (.int .i64 r_16.2.1)) :: (.cell b4_6 (.int .i64 r_16.2.2)) :: _) rfl ?_
        refine r_d rfl rfl rfl (s_fieldRef rfl fl_api_Rule_1 rfl) ?_
        refine r_end ?_
        refine p_alt ?_ p_no
        refine r_w rfl rfl rfl (s_call _ rfl cl_normal_heads (.cons rfl (Wk.refl _) (.cons rfl (Wk.refl _) .nil)) (by exact ((pf1 _ _ _).trans (pf1 _ _ _))) (lg_normal_heads_s2 fuel _ _ _ _ _ _ hr_17)) ?_
        rintro _ _ ⟨_, ⟨rfl, rfl⟩, rfl⟩
        refine r_st ((.cell b3_5 (.int .i64 r_17.2.1)) :: (.cell b4_6 (.int .i64 r_17.2.2)) :: _) rfl ?_
        refine r_end ?_
        refine p_alt ?_ p_no
        refine r_w01 rfl rfl rfl (t_store _ rfl rfl rfl (Wk.refl _) (pf2 _ _ _ _) rfl rfl (by exact ty_L_api_Atom) rfl rfl rfl) ?_
        refine r_d rfl rfl rfl (s_fieldRef rfl fl_api_Rule_2 rfl) ?_
        refine r_end ?_
        refine p_alt ?_ p_no
        refine r_w01 rfl rfl rfl (t_store _ rfl rfl rfl (Wk.refl _) (pf0 _) rfl rfl (by exact ty_L_api_Atom) rfl rfl rfl) ?_
        refine r_d rfl rfl rfl (s_fieldRef rfl fl_api_Rule_3 rfl) ?_
        refine r_end ?_
        refine p_alt ?_ p_no
        refine r_w01 rfl rfl rfl (t_store _ rfl rfl rfl (Wk.refl _) (pf0 _) rfl rfl (by exact ty_L_api_Goal) rfl rfl rfl) ?_
        refine r_end ?_
        refine p_end ?_
        exact ⟨(Sub.cons' rfl (Sub.cons' rfl (Sub.cons' rfl (Sub.cons' rfl (Sub.nil _))))), ((((pf3 _ _ _ _ _).trans (pf3 _ _ _ _ _)).trans (pf3 _ _ _ _ _)).trans (pf3 _ _ _ _ _))⟩
       refine p_alt ?_ ?_
       ·
        refine r_wr rfl rfl rfl (t_loadRef rfl rfl (.head _) rfl rfl (by exact ty_L_api_Atom) rfl) ?_
        refine r_end ?_
        refine p_alt ?_ ?_
        ·
         refine r_wr rfl rfl rfl (t_loadRef rfl rfl (.head _) rfl rfl (by exact ty_L_api_Atom) rfl) ?_
         refine r_end ?_
         refine p_alt ?_ ?_
         ·
          refine r_w rfl rfl rfl (s_call _ rfl cl_normal_heads (.cons rfl (Wk.refl _) (.cons rfl (Wk.refl _) .nil)) (by exact ((pf3 _ _ _ _ _).trans (pf3 _ _ _ _ _))) (lg_normal_heads_s2 fuel _ _ _ _ _ _ hr_16)) ?_
          rintro _ _ ⟨_, ⟨rfl, rfl⟩, rfl⟩
          refine r_st ((.cell b3_5 (.int .i64 r_16.2.1)) :: (.cell b4_6 (.int .i64 r_16.2.2)) :: _) rfl ?_
          refine r_end ?_
          refine p_alt ?_ ?_
          ·
           refine r_w rfl rfl rfl (s_call _ rfl cl_normal_heads (.cons rfl (Wk.refl _) (.cons rfl (Wk.refl _) .nil)) (by exact ((pf1 _ _ _).trans (pf1 _ _ _))) (lg_normal_heads_s2 fuel _ _ _ _ _ _ hr_17)) ?_
           rintro _ _ ⟨_, ⟨rfl, rfl⟩, rfl⟩
           refine r_st ((.cell b3_5 (.int .i64 r_17.2.1)) :: (.cell b4_6 (.int .i64 r_17.2.2)) :: _) rfl ?_
           refine r_end ?_
           refine p_alt ?_ p_no
           refine r_wr rfl rfl rfl (t_loadRef rfl rfl (.tail _ (.tail _ (.head _))) rfl rfl (by exact ty_L_api_Goal) rfl) ?_
           refine r_d rfl rfl rfl (m_sub (f := encG) r_9.f3_Guard 1 (r_9.f3_Guard.length : Int) rfl el_L_api_Goal rfl (asl rfl) (bl_some rfl) bh_none sz_encG hl_18) ?_
           refine r_d rfl rfl rfl (s_fieldRef rfl fl_api_Rule_1 rfl) ?_
           refine r_end ?_
           refine p_alt ?_ p_no
           refine r_w01 rfl rfl rfl (t_store _ rfl rfl rfl (Wk.refl _) (pf2 _ _ _ _) rfl rfl (by exact ty_L_api_Atom) rfl rfl rfl) ?_
           refine r_d rfl rfl rfl (s_fieldRef rfl fl_api_Rule_2 rfl) ?_
           refine r_end ?_
           refine p_alt ?_ p_no
           refine r_w01 rfl rfl rfl (t_store _ rfl rfl rfl (Wk.refl _) (pf0 _) rfl rfl (by exact ty_L_api_Atom) rfl rfl rfl) ?_
           refine r_d rfl rfl rfl (s_fieldRef rfl fl_api_Rule_3 rfl) ?_
           refine r_end ?_
           refine p_alt ?_ p_no
           refine r_w01 rfl rfl rfl (t_store _ rfl rfl rfl (Wk.refl _) (pf0 _) rfl rfl (by exact ty_L_api_Goal) rfl rfl rfl) ?_
           refine r_end ?_
           refine p_end ?_
           exact ⟨(Sub.cons' rfl (Sub.cons' rfl (Sub.cons' rfl (Sub.cons' rfl (Sub.nil _))))), ((((pf3 _ _ _ _ _).trans (pf3 _ _ _ _ _)).trans (pf3 _ _ _ _ _)).trans (pf3 _ _ _ _ _))⟩
          refine p_alt ?_ p_no
          refine r_wr rfl rfl rfl (t_loadRef rfl rfl (.tail _ (.tail _ (.head _))) rfl rfl (by exact ty_L_api_Goal) rfl) ?_
          refine r_d rfl rfl rfl (m_sub (f := encG) r_9.f3_Guard 1 (r_9.f3_Guard.length : Int) rfl el_L_api_Goal rfl (asl rfl) (bl_some rfl) bh_none sz_encG hl_18) ?_
          refine r_d rfl rfl rfl (s_fieldRef rfl fl_api_Rule_1 rfl) ?_
          refine r_end ?_
          refine p_alt ?_ p_no
          refine r_w rfl rfl rfl (s_call _ rfl cl_normal_heads (.cons rfl (Wk.refl _) (.cons rfl (Wk.refl _) .nil)) (by exact ((pf1 _ _ _).trans (pf1 _ _ _))) (lg_normal_heads_s2 fuel _ _ _ _ _ _ hr_17)) ?_
          rintro _ _ ⟨_, ⟨rfl, rfl⟩, rfl⟩
          refine r_st ((.cell b3_5 (.int .i64 r_17.2.1)) :: (.cell b4_6 (.int .i64 r_17.2.2)) :: _) rfl ?_
          refine r_end ?_
          refine p_alt ?_ p_no
          refine r_w01 rfl rfl rfl (t_store _ rfl rfl rfl (Wk.refl _) (pf2 _ _ _ _) rfl rfl (by exact ty_L_api_Atom) rfl rfl rfl) ?_
          refine r_d rfl rfl rfl (s_fieldRef rfl fl_api_Rule_2 rfl) ?_
          refine r_end ?_
          refine p_alt ?_ p_no
          refine r_w01 rfl rfl rfl (t_store _ rfl rfl rfl (Wk.refl _) (pf0 _) rfl rfl (by exact ty_L_api_Atom) rfl rfl rfl) ?_
          refine r_d rfl rfl rfl (s_fieldRef rfl fl_api_Rule_3 rfl) ?_
          refine r_end ?_
          refine p_alt ?_ p_no
          refine r_w01 rfl rfl rfl (t_store _ rfl rfl rfl (Wk.refl _) (pf0 _) rfl rfl (by exact ty_L_api_Goal) rfl rfl rfl) ?_
          refine r_end ?_
          refine p_end ?_
          exact ⟨(Sub.cons' rfl (Sub.cons' rfl (Sub.cons' rfl (Sub.cons' rfl (Sub.nil _))))), ((((pf3 _ _ _ _ _).trans (pf3 _ _ _ _ _)).trans (pf3 _ _ _ _ _)).trans (pf3 _ _ _ _ _))⟩
         refine p_alt ?_ p_no
         refine r_wr rfl rfl rfl (t_loadRef rfl rfl (.head _) rfl rfl (by exact ty_L_api_Goal) rfl) ?_
         refine r_d rfl rfl rfl (m_sub (f := encG) r_9.f3_Guard 1 (r_9.f3_Guard.length : Int) rfl el_L_api_Goal rfl (asl rfl) (bl_some rfl) bh_none sz_encG hl_18) ?_
         refine r_end ?_
         refine p_alt ?_ p_no
         refine r_w rfl rfl rfl (s_call _ rfl cl_normal_heads (.cons rfl (Wk.refl _) (.cons rfl (Wk.refl _) .nil)) (by exact ((pf3 _ _ _ _ _).trans (pf3 _ _ _ _ _))) (lg_normal_heads_s2 fuel _ _ _ _ _ _ hr_16)) ?_
         rintro _ _ ⟨_, ⟨rfl, rfl⟩, rfl⟩
         refine r_st ((.cell b3_5 (.int .i64 r_16.2.1)) :: (.cell b4_6 (.int .i64 r_16.2.2)) :: _) rfl ?_
         refine r_d rfl rfl rfl (s_fieldRef rfl fl_api_Rule_1 rfl) ?_
         refine r_end ?_
         refine p_alt ?_ p_no
         refine r_w rfl rfl rfl (s_call _ rfl cl_normal_heads (.cons rfl (Wk.refl _) (.cons rfl (Wk.refl _) .nil)) (by exact ((pf1 _ _ _).trans (pf1 _ _ _))) (lg_normal_heads_s2 fuel _ _ _ _ _ _ hr_17)) ?_
         rintro _ _ ⟨_, ⟨rfl, rfl⟩, rfl⟩
         refine r_st ((.cell b3_5 (.int .i64 r_17.2.1)) :: (.cell b4_6 (.int .i64 r_17.2.2)) :: _) rfl ?_
         refine r_end ?_
         refine p_alt ?_ p_no
         refine r_w01 rfl rfl rfl (t_store _ rfl rfl rfl (Wk.refl _) (pf2 _ _ _ _) rfl rfl (by exact ty_L_api_Atom) rfl rfl rfl) ?_
         refine r_d rfl rfl rfl (s_fieldRef rfl fl_api_Rule_2 rfl) ?_
         refine r_end ?_
         refine p_alt ?_ p_no
         refine r_w01 rfl rfl rfl (t_store _ rfl rfl rfl (Wk.refl _) (pf0 _) rfl rfl (by exact ty_L_api_Atom) rfl rfl rfl) ?_
         refine r_d rfl rfl rfl (s_fieldRef rfl fl_api_Rule_3 rfl) ?_
         refine r_end ?_
         refine p_alt ?_ p_no
         refine r_w01 rfl rfl rfl (t_store _ rfl rfl rfl (Wk.refl _) (pf0 _) rfl rfl (by exact ty_L_api_Goal) rfl rfl rfl) ?_
         refine r_end ?_
         refine p_end ?_
         exact ⟨(Sub.cons' rfl (Sub.cons' rfl (Sub.cons' rfl (Sub.cons' rfl (Sub.nil _))))), ((((pf3 _ _ _ _ _).trans (pf3 _ _ _ _ _)).trans (pf3 _ _ _ _ _)).trans (pf3 _ _ _ _ _))⟩
        refine p_alt ?_ p_no
        refine r_wr rfl rfl rfl (t_loadRef rfl rfl (.head _) rfl rfl (by exact ty_L_api_Goal) rfl) ?_
        refine r_d rfl rfl rfl (m_sub (f := encG) r_9.f3_Guard 1 (r_9.f3_Guard.length : Int) rfl el_L_api_Goal rfl (asl rfl) (bl_some rfl) bh_none sz_encG hl_18) ?_
        refine r_end ?_
        refine p_alt ?_ p_no
        refine r_wr rfl rfl rfl (t_loadRef rfl rfl (.head _) rfl rfl (by exact ty_L_api_Atom) rfl) ?_
        refine r_end ?_
        refine p_alt ?_ p_no
        refine r_w rfl rfl rfl (s_call _ rfl cl_normal_heads (.cons rfl (Wk.refl _) (.cons rfl (Wk.refl _) .nil)) (by exact ((pf3 _ _ _ _ _).trans (pf3 _ _ _ _ _))) (lg_normal_heads_s2 fuel _ _ _ _ _ _ hr_16)) ?_
        rintro _ _ ⟨_, ⟨rfl, rfl⟩, rfl⟩
        refine r_st ((.cell b3_5 (.int .i64 r_16.2.1)) :: (.cell b4_6 (.int .i64 r_16.2.2)) :: _) rfl ?_
        refine r_d rfl rfl rfl (s_fieldRef rfl fl_api_Rule_1 rfl) ?_
        refine r_end ?_
        refine p_alt ?_ p_no
        refine r_w rfl rfl rfl (s_call _ rfl cl_normal_heads (.cons rfl (Wk.refl _) (.cons rfl (Wk.refl _) .nil)) (by exact ((pf1 _ _ _).trans (pf1 _ _ _))) (lg_normal_heads_s2 fuel _ _ _ _ _ _ hr_17)) ?_
        rintro _ _ ⟨_, ⟨rfl, rfl⟩, rfl⟩
        refine r_st ((.cell b3_5 (.int .i64 r_17.2.1)) :: (.cell b4_6 (.int .i64 r_17.2.2)) :: _) rfl ?_
        refine r_end ?_
        refine p_alt ?_ p_no
        refine r_w01 rfl rfl rfl (t_store _ rfl rfl rfl (Wk.refl _) (pf2 _ _ _ _) rfl rfl (by exact ty_L_api_Atom) rfl rfl rfl) ?_
        refine r_d rfl rfl rfl (s_fieldRef rfl fl_api_Rule_2 rfl) ?_
        refine r_end ?_
        refine p_alt ?_ p_no
        refine r_w01 rfl rfl rfl (t_store _ rfl rfl rfl (Wk.refl _) (pf0 _) rfl rfl (by exact ty_L_api_Atom) rfl rfl rfl) ?_
        refine r_d rfl rfl rfl (s_fieldRef rfl fl_api_Rule_3 rfl) ?_
        refine r_end ?_
        refine p_alt ?_ p_no
        refine r_w01 rfl rfl rfl (t_store _ rfl rfl rfl (Wk.refl _) (pf0 _) rfl rfl (by exact ty_L_api_Goal) rfl rfl rfl) ?_
        refine r_end ?_
        refine p_end ?_
        exact ⟨(Sub.cons' rfl (Sub.cons' rfl (Sub.cons' rfl (Sub.cons' rfl (Sub.nil _))))), ((((pf3 _ _ _ _ _).trans (pf3 _ _ _ _ _)).trans (pf3 _ _ _ _ _)).trans (pf3 _ _ _ _ _))⟩
       refine p_alt ?_ p_no
       refine r_wr rfl rfl rfl (t_loadRef rfl rfl (.head _) rfl rfl (by exact ty_L_api_Goal) rfl) ?_
       refine r_d rfl rfl rfl (m_sub (f := encG) r_9.f3_Guard 1 (r_9.f3_Guard.length : Int) rfl el_L_api_Goal rfl (asl rfl) (bl_some rfl) bh_none sz_encG hl_18) ?_
       refine r_end ?_
       refine p_alt ?_ ?_
       ·
        refine r_wr rfl rfl rfl (t_loadRef rfl rfl (.head _) rfl rfl (by exact ty_L_api_Atom) rfl) ?_
        refine r_end ?_
        refine p_alt ?_ ?_
        ·
         refine r_w rfl rfl rfl (s_call _ rfl cl_normal_heads (.cons rfl (Wk.refl _) (.cons rfl (Wk.refl _) .nil)) (by exact ((pf3 _ _ _ _ _).trans (pf3 _ _ _ _ _))) (lg_normal_heads_s2 fuel _ _ _ _ _ _ hr_16)) ?_
         rintro _ _ ⟨_, ⟨rfl, rfl⟩, rfl⟩
         refine r_st ((.cell b3_5 (.int .i64 r_16.2.1)) :: (.cell b4_6 (.int .i64 r_16.2.2)) :: _) rfl ?_
         refine r_end ?_
         refine p_alt ?_ p_no
         refine r_wr rfl rfl rfl (t_loadRef rfl rfl (.tail _ (.tail _ (.head _))) rfl rfl (by exact ty_L_api_Atom) rfl) ?_
         refine r_d rfl rfl rfl (s_fieldRef rfl fl_api_Rule_1 rfl) ?_
         refine r_end ?_
         refine p_alt ?_ p_no
         refine r_w rfl rfl rfl (s_call _ rfl cl_normal_heads (.cons rfl (Wk.refl _) (.cons rfl (Wk.refl _) .nil)) (by exact ((pf1 _ _ _).trans (pf1 _ _ _))) (lg_normal_heads_s2 fuel _ _ _ _ _ _ hr_17)) ?_
         rintro _ _ ⟨_, ⟨rfl, rfl⟩, rfl⟩
         refine r_st ((.cell b3_5 (.int .i64 r_17.2.1)) :: (.cell b4_6 (.int .i64 r_17.2.2)) :: _) rfl ?_
         refine r_end ?_
         refine p_alt ?_ p_no
         refine r_w01 rfl rfl rfl (t_store _ rfl rfl rfl (Wk.refl _) (pf2 _ _ _ _) rfl rfl (by exact ty_L_api_Atom) rfl rfl rfl) ?_
         refine r_d rfl rfl rfl (s_fieldRef rfl fl_api_Rule_2 rfl) ?_
         refine r_end ?_
         refine p_alt ?_ p_no
         refine r_w01 rfl rfl rfl (t_store _ rfl rfl rfl (Wk.refl _) (pf0 _) rfl rfl (by exact ty_L_api_Atom) rfl rfl rfl) ?_
         refine r_d rfl rfl rfl (s_fieldRef rfl fl_api_Rule_3 rfl) ?_
         refine r_end ?_
         refine p_alt ?_ p_no
         refine r_w01 rfl rfl rfl (t_store _ rfl rfl rfl (Wk.refl _) (pf0 _) rfl rfl (by exact ty_L_api_Goal) rfl rfl rfl) ?_
         refine r_end ?_
         refine p_end ?_
         exact ⟨(Sub.cons' rfl (Sub.cons' rfl (Sub.cons' rfl (Sub.cons' rfl (Sub.nil _))))), ((((pf3 _ _ _ _ _).trans (pf3 _ _ _ _ _)).trans (pf3 _ _ _ _ _)).trans (pf3 _ _ _ _ _))⟩
        refine p_alt ?_ p_no
        refine r_wr rfl rfl rfl (t_loadRef rfl rfl (.head _) rfl rfl (by exact ty_L_api_Atom) rfl) ?_
        refine r_end ?_
        refine p_alt ?_ p_no
        refine r_w rfl rfl rfl (s_call _ rfl cl_normal_heads (.cons rfl (Wk.refl _) (.cons rfl (Wk.refl _) .nil)) (by exact ((pf3 _ _ _ _ _).trans (pf3 _ _ _ _ _))) (lg_normal_heads_s2 fuel _ _ _ _ _ _ hr_16)) ?_
        rintro _ _ ⟨_, ⟨rfl, rfl⟩, rfl⟩
        refine r_st ((.cell b3_5 (.int .i64 r_16.2.1)) :: (.cell b4_6 (.int .i64 r_16.2.2)) :: _) rfl ?_
        refine r_d rfl rfl rfl (s_fieldRef rfl fl_api_Rule_1 rfl) ?_
        refine r_end ?_
        refine p_alt ?_ p_no
        refine r_w rfl rfl rfl (s_call _ rfl cl_normal_heads (.cons rfl (Wk.refl _) (.cons rfl (Wk.refl _) .nil)) (by exact ((pf1 _ _ _).trans (pf1 _ _ _))) (lg_normal_heads_s2 fuel _ _ _ _ _ _ hr_17)) ?_
        rintro _ _ ⟨_, ⟨rfl, rfl⟩, rfl⟩
        refine r_st ((.cell b3_5 (.int .i64 r_17.2.1)) :: (.cell b4_6 (.int .i64 r_17.2.2)) :: _) rfl ?_
        refine r_end ?_
        refine p_alt ?_ p_no
        refine r_w01 rfl rfl rfl (t_store _ rfl rfl rfl (Wk.refl _) (pf2 _ _ _ _) rfl rfl (by exact ty_L_api_Atom) rfl rfl rfl) ?_
        refine r_d rfl rfl rfl (s_fieldRef rfl fl_api_Rule_2 rfl) ?_
        refine r_end ?_
        refine p_alt ?_ p_no
        refine r_w01 rfl rfl rfl (t_store _ rfl rfl rfl (Wk.refl _) (pf0 _) rfl rfl (by exact ty_L_api_Atom) rfl rfl rfl) ?_
        refine r_d rfl rfl rfl (s_fieldRef rfl fl_api_Rule_3 rfl) ?_
        refine r_end ?_
        refine p_alt ?_ p_no
        refine r_w01 rfl rfl rfl (t_store _ rfl rfl rfl (Wk.refl _) (pf0 _) rfl rfl (by exact ty_L_api_Goal) rfl rfl rfl) ?_
        refine r_end ?_
        refine p_end ?_
        exact ⟨(Sub.cons' rfl (Sub.cons' rfl (Sub.cons' rfl (Sub.cons' rfl (Sub.nil _))))), ((((pf3 _ _ _ _ _).trans (pf3 _ _ _ _ _)).trans (pf3 _ _ _ _ _)).trans (pf3 _ _ _ _ _))⟩
       refine p_alt ?_ p_no
       refine r_wr rfl rfl rfl (t_loadRef rfl rfl (.head _) rfl rfl (by exact ty_L_api_Atom) rfl) ?_
       refine r_end ?_
       refine p_alt ?_ p_no
       refine r_wr rfl rfl rfl (t_loadRef rfl rfl (.head _) rfl rfl (by exact ty_L_api_Atom) rfl) ?_
       refine r_end ?_
       refine p_alt ?_ p_no
       refine r_w rfl rfl rfl (s_call _ rfl cl_normal_heads (.cons rfl (Wk.refl _) (.cons rfl (Wk.refl _) .nil)) (by exact ((pf3 _ _ _ _ _).trans (pf3 _ _ _ _ _))) (lg_normal_heads_s2 fuel _ _ _ _ _ _ hr_16)) ?_
       rintro _ _ ⟨_, ⟨rfl, rfl⟩, rfl⟩
       refine r_st ((.cell b3_5 (.int .i64 r_16.2.1)) :: (.cell b4_6 (.int .i64 r_16.2.2)) :: _) rfl ?_
       refine r_d rfl rfl rfl (s_fieldRef rfl fl_api_Rule_1 rfl) ?_
       refine r_end ?_
       refine p_alt ?_ p_no
       refine r_w rfl rfl rfl (s_call _ rfl cl_normal_heads (.cons rfl (Wk.refl _) (.cons rfl (Wk.refl _) .nil)) (by exact ((pf1 _ _ _).trans (pf1 _ _ _))) (lg_normal_heads_s2 fuel _ _ _ _ _ _ hr_17)) ?_
       rintro _ _ ⟨_, ⟨rfl, rfl⟩, rfl⟩
       refine r_st ((.cell b3_5 (.int .i64 r_17.2.1)) :: (.cell b4_6 (.int .i64 r_17.2.2)) :: _) rfl ?_
       refine r_end ?_
       refine p_alt ?_ p_no
       refine r_w01 rfl rfl rfl (t_store _ rfl rfl rfl (Wk.refl _) (pf2 _ _ _ _) rfl rfl (by exact ty_L_api_Atom) rfl rfl rfl) ?_
       refine r_d rfl rfl rfl (s_fieldRef rfl fl_api_Rule_2 rfl) ?_
       refine r_end ?_
       refine p_alt ?_ p_no
       refine r_w01 rfl rfl rfl (t_store _ rfl rfl rfl (Wk.refl _) (pf0 _) rfl rfl (by exact ty_L_api_Atom) rfl rfl rfl) ?_
       refine r_d rfl rfl rfl (s_fieldRef rfl fl_api_Rule_3 rfl) ?_
       refine r_end ?_
       refine p_alt ?_ p_no
       refine r_w01 rfl rfl rfl (t_store _ rfl rfl rfl (Wk.refl _) (pf0 _) rfl rfl (by exact ty_L_api_Goal) rfl rfl rfl) ?_
       refine r_end ?_
       refine p_end ?_
       exact ⟨(Sub.cons' rfl (Sub.cons' rfl (Sub.cons' rfl (Sub.cons' rfl (Sub.nil _))))), ((((pf3 _ _ _ _ _).trans (pf3 _ _ _ _ _)).trans (pf3 _ _ _ _ _)).trans (pf3 _ _ _ _ _))⟩
      ·
       rintro _ _ ⟨hs, hp⟩
       refine g_ends hs hp ?_
       refine g_inBlock ?_
       refine g_seq ?_
       refine g_seq ?_
       refine g_run (by kernel_rfl) [(0, .r), (1, .r)] rfl ?_
       refine r_r rfl rfl rfl (t_loadRef rfl rfl (.tail _ (.head _)) rfl rfl (by exact ty_int) rfl) ?_
       refine r_r rfl rfl rfl (t_loadRef rfl rfl (.tail _ (.tail _ (.head _))) rfl rfl (by exact ty_int) rfl) ?_
       refine r_end ?_
       refine g_run (by kernel_rfl) [(0, .w), (1, .w), (2, .w), (3, .w)] rfl ?_
       refine r_w rfl rfl rfl (s_alloc rfl zv_int) ?_
       rintro _ _ ⟨b3_n, rfl, rfl⟩
       refine r_w01 rfl rfl rfl (t_store0 _ rfl rfl rfl (Wk.refl _) (pf0 _) (by exact ty_int) rfl rfl rfl) ?_
       refine r_w rfl rfl rfl (s_alloc rfl zv_int) ?_
       rintro _ _ ⟨b4_n, rfl, rfl⟩
       refine r_w01 rfl rfl rfl (t_store0 _ rfl rfl rfl (Wk.refl _) (pf0 _) (by exact ty_int) rfl rfl rfl) ?_
       refine r_end ?_
       refine g_perm [_, _, _, _] [_, _] ((pf2 _ _ _ _).trans (((pf1 _ _ _).trans (((pf2 _ _ _ _).cons _).cons _)).cons _)) ?_
       refine g_run (by kernel_rfl) [(0, .r), (1, .d), (2, .d), (3, .d), (4, .d), (5, .d), (6, .w), (7, .w), (8, .d)] rfl ?_
       refine r_r rfl rfl rfl (t_loadRef rfl rfl (.head _) rfl rfl (by exact ty_api_Rule) rfl) ?_
       obtain ⟨r_19, hr_19, hr⟩ := bindS hr
       refine r_d rfl rfl rfl (s_callD rfl cl_normal_joining (.cons rfl (Wk.refl _) .nil) (lg_normal_joining _ _ hr_19)) ?_
       refine r_d rfl rfl rfl (s_move rfl rfl) ?_
       refine r_d rfl rfl rfl (s_extract rfl rfl rfl) ?_
       refine r_d rfl rfl rfl (s_extract rfl rfl rfl) ?_
       refine r_d rfl rfl rfl (s_extract rfl rfl rfl) ?_
       refine r_w01 rfl rfl rfl (t_store0 _ rfl rfl rfl (Wk.refl _) (pf1 _ _ _) (by exact ty_int) rfl rfl rfl) ?_
       refine r_w01 rfl rfl rfl (t_store0 _ rfl rfl rfl (Wk.refl _) (pf2 _ _ _ _) (by exact ty_int) rfl rfl rfl) ?_
       refine r_d rfl rfl rfl (s_assign rfl rfl) ?_
       refine r_end ?_
       refine g_sub [(1, .ref b1_0 0 []), (2, .ref b2_1 0 []), (3, .ref b3_n 0 []), (4, .ref b4_n 0 []), (5, .bool r_19.2.2)] (Sub.cons' rfl (Sub.cons' rfl (Sub.cons' rfl (Sub.cons' rfl (Sub.cons' rfl (Sub.nil _)))))) ?_
       refine g_perm [_, _, _, _] _ ((((pf0 _).trans (pf1 _ _ _)).trans (pf3 _ _ _ _ _)).trans (pf3 _ _ _ _ _)) ?_
       exact IH0 _ _ _ (by omega) ⟨r_19.2.2, (⟨r_9.f0_Name, r_16.1, r_17.1, l_18, r_9.f4_Body, r_9.f5_Vars⟩ : S_api_Rule), r_19.1, r_19.2.1, _, b3_n, b4_n, rfl, rfl, rfl, hr⟩
     ·
      refine g_condF rfl ?_
      refine g_exit rfl ?_
      refine g_sub [(1, .ref b1_0 0 []), (2, .ref b2_1 0 [])] (Sub.cons' rfl (Sub.cons' rfl (Sub.nil _))) ?_
      refine g_perm [_, _] _ ((pf1 _ _ _).trans (pf1 _ _ _)) ?_
      exact HK0 _ _ ⟨r_9, rfl, rfl, hr⟩

noncomputable def lf_term_Var (n_a0 : Int) : Option (T) :=
  some ((T.mk 1 n_a0 ⟨#[]⟩ []))

set_option maxHeartbeats 1000000 in
theorem lg_term_Var (n_a0 : Int) (res : T) (hr : lf_term_Var n_a0 = some res) : Gives Try.prog 23 [.int .i64 n_a0] (encT res) := by
  unfold lf_term_Var at hr
  refine spec_env [(0, .int .i64 n_a0)] Try.func23 rfl rfl fun K hK => ?_
  refine g_seq ?_
  refine g_run (by kernel_rfl) [(0, .w)] rfl ?_
  refine r_w rfl rfl rfl (s_alloc rfl zv_api_Term) ?_
  rintro _ _ ⟨b2_0, rfl, rfl⟩
  refine r_end ?_
  refine g_seq ?_
  refine g_run (by kernel_rfl) [(0, .d), (1, .d), (2, .w)] rfl ?_
  refine r_d rfl rfl rfl (s_move rfl rfl) ?_
  refine r_d rfl rfl rfl (s_build rfl bt_api_Term (.cons rfl (Wk.refl _) (.cons rfl (Wk.refl _) .nil)) (.cons rfl rfl rfl (.cons rfl rfl rfl (.nil _)))) ?_
  refine r_w01 rfl rfl rfl (t_store0 _ rfl rfl rfl (Wk.refl _) (pf0 _) (by exact ty_api_Term) rfl rfl rfl) ?_
  refine r_end ?_
  obtain rfl := Option.some.inj hr
  refine g_ret Try.func23 _ (.cons (resRef rfl (.head _) (by exact ty_api_Term) rfl (Wk.refl _)) .nil) ?_
  first | rfl | (show _ = D.agg (fsT _); rw [fsT_eq] <;> rfl) | simp [packD, encT, fsT_eq, T.k, T.i, T.s, T.ar]

noncomputable def lf_normal_Linear_1_s1 (v_a0 : Int) (s_0 : (List (Int × Bool))) (c_1 : (List Gl)) (c_3 : Int) : Option (Int × (List (Int × Bool)) × (List Gl) × Int) :=
  (bif (!((mget s_0 v_a0).getD false)) then
  ((mputO s_0 v_a0 true).bind fun mm_2 =>
  some (v_a0, mm_2, c_1, c_3))
  else
  ((lf_term_Var c_3).bind fun r_3 =>
  ((lf_term_Var v_a0).bind fun r_4 =>
  ((appO 48 c_1 [(⟨5, ⟨#[]⟩, [r_3, r_4]⟩ : Gl)]).bind fun l_5 =>
  some ((wr ((wr (c_3 + (1 : Int))) - (1 : Int))), s_0, l_5, (wr (c_3 + (1 : Int))))))))

set_option maxHeartbeats 1000000 in
theorem lg_normal_Linear_1_s1 (v_a0 : Int) (s_0 : (List (Int × Bool))) (c_1 : (List Gl)) (c_3 : Int) (m_o0 : Nat) (b_o1 : Nat) (u_o2 : Value) (b_o3 : Nat) (res : Int × (List (Int × Bool)) × (List Gl) × Int) (hr : lf_normal_Linear_1_s1 v_a0 s_0 c_1 c_3 = some res) : Spec Try.prog 22 [.int .i64 v_a0, .ptr (.map m_o0), .ref b_o1 0 [], .ref b_o3 0 []] [.map m_o0 (mapM' (D.int .i64) D.bool s_0), .cell b_o1 (.own u_o2 (c_1.map encG)), .row u_o2 c_1.length 45 3, .cell b_o3 (.int .i64 c_3)] (fun d σ => ∃ (u_o2' : Value), d = .int .i64 res.1 ∧ σ = [.map m_o0 (mapM' (D.int .i64) D.bool res.2.1), .cell b_o1 (.own u_o2' (res.2.2.1.map encG)), .row u_o2' res.2.2.1.length 45 3, .cell b_o3 (.int .i64 res.2.2.2)]) := by
  unfold lf_normal_Linear_1_s1 at hr
  refine spec_env [(0, .int .i64 v_a0), (1, .ptr (.map m_o0)), (2, .ref b_o1 0 []), (3, .ref b_o3 0 [])] Try.func22 rfl rfl fun K hK => ?_
  refine g_seq ?_
  refine g_run (by kernel_rfl) [(0, .d)] rfl ?_
  refine r_d rfl rfl rfl (s_assign rfl rfl) ?_
  refine r_end ?_
  refine g_seq ?_
  refine g_seq ?_
  refine g_run (by kernel_rfl) [(0, .d), (1, .d), (2, .r), (3, .d)] rfl ?_
  refine r_d rfl rfl rfl (s_load rfl rfl (by exact ty_map_int_bool) rfl) ?_
  refine r_d rfl rfl rfl (s_move rfl rfl) ?_
  refine r_r rfl rfl rfl (m_lookup1 (key := (D.int .i64)) (g := D.bool) s_0 v_a0 false rfl Try.underlying47 (keyInt Try.underlying3) zm_bool rfl rfl (.head _)) ?_
  refine r_d rfl rfl rfl (s_not rfl rfl) ?_
  refine r_end ?_
  refine g_sB 9 rfl hr (fun h9_0 hr => ?_) (fun h9_0 hr => ?_)
  ·
   refine g_condT rfl ?_
   refine g_seq ?_
   refine g_run (by kernel_rfl) [(0, .d), (1, .d), (2, .w)] rfl ?_
   refine r_d rfl rfl rfl (s_load rfl rfl (by exact ty_map_int_bool) rfl) ?_
   refine r_d rfl rfl rfl (s_move rfl rfl) ?_
   obtain ⟨mm_2, hmm_2, hr⟩ := bindS hr
   refine r_w01 rfl rfl rfl (m_mapUpdate (key := (D.int .i64)) (g := D.bool) s_0 v_a0 true rfl Try.underlying47 (keyInt Try.underlying3) rfl rfl rfl (Wk.refl _) (pf0 _) hmm_2) ?_
   refine r_end ?_
   refine g_seq ?_
   refine g_run (by kernel_rfl) [(0, .d), (1, .d)] rfl ?_
   refine r_d rfl rfl rfl (s_move rfl rfl) ?_
   refine r_d rfl rfl rfl (s_assign rfl rfl) ?_
   refine r_end ?_
   obtain rfl := Option.some.inj hr
   refine g_ret Try.func22 _ (.cons (resTmp rfl (Wk.refl _)) .nil) ?_
   exact ⟨u_o2, rfl, rfl⟩
  ·
   refine g_condF rfl ?_
   refine g_skip ?_
   refine g_seq ?_
   refine g_any (by kernel_rfl) (by kernel_rfl) [(0, .r), (1, .r), (2, .d), (3, .d), (4, .d), (5, .d), (6, .d), (7, .d), (8, .w), (9, .w)] (by kernel_rfl) ?_
   refine r_r rfl rfl rfl (t_loadRef rfl rfl (.tail _ (.head _)) rfl rfl (by exact ty_L_api_Goal) rfl) ?_
   refine r_r rfl rfl rfl (t_loadRef rfl rfl (.tail _ (.tail _ (.tail _ (.head _)))) rfl rfl (by exact ty_int) rfl) ?_
   obtain ⟨r_3, hr_3, hr⟩ := bindS hr
   refine r_d rfl rfl rfl (s_callD rfl cl_term_Var (.cons rfl (Wk.refl _) .nil) (lg_term_Var _ _ hr_3)) ?_
   refine r_d rfl rfl rfl (s_move rfl rfl) ?_
   obtain ⟨r_4, hr_4, hr⟩ := bindS hr
   refine r_d rfl rfl rfl (s_callD rfl cl_term_Var (.cons rfl (Wk.refl _) .nil) (lg_term_Var _ _ hr_4)) ?_
   refine r_d rfl rfl rfl (m_lit (f := encT) [.tmp 15, .tmp 17] [r_3, r_4] rfl el_L_api_Term rfl rfl (by decide) (by decide) (.cons rfl (Wk.refl _) (.cons rfl (Wk.refl _) .nil)) sz_encT (fun _ => rfl)) ?_
   refine r_d rfl rfl rfl (s_build rfl bt_api_Goal (.cons rfl (Wk.refl _) (.cons rfl (Wk.full _) .nil)) (.cons rfl rfl rfl (.cons rfl rfl rfl (.nil _)))) ?_
   refine r_d rfl rfl rfl (m_lit (f := encG) [.tmp 19] [(⟨5, ⟨#[]⟩, [r_3, r_4]⟩ : Gl)] rfl el_L_api_Goal rfl rfl (by decide) (by decide) (.cons rfl (Wk.refl _) .nil) sz_encG (fun _ => rfl)) ?_
   obtain ⟨l_5, hl_5, hr⟩ := bindS hr
   refine r_w rfl rfl rfl (m_appOwn (f := encG) c_1 [(⟨5, ⟨#[]⟩, [r_3, r_4]⟩ : Gl)] rfl el_L_api_Goal rfl rfl (asl rfl) (pf2 _ _ _ _) rfl sz_encG hl_5) ?_
   rintro _ _ ⟨u21_5, rfl, rfl⟩
   refine r_w01 rfl rfl rfl (t_store0 _ rfl rfl rfl (Wk.refl _) (pf2 _ _ _ _) (by exact ty_L_api_Goal) rfl rfl rfl) ?_
   refine r_end ?_
   refine g_seq ?_
   refine g_run (by kernel_rfl) [(0, .r), (1, .d), (2, .w)] rfl ?_
   refine r_r rfl rfl rfl (t_loadRef rfl rfl (.tail _ (.tail _ (.tail _ (.head _)))) rfl rfl (by exact ty_int) rfl) ?_
   refine r_d rfl rfl rfl (s_arW rfl rfl rfl rfl) ?_
   refine r_w01 rfl rfl rfl (t_store0 _ rfl rfl rfl (Wk.refl _) (pf3 _ _ _ _ _) (by exact ty_int) rfl rfl rfl) ?_
   refine r_end ?_
   refine g_seq ?_
   refine g_run (by kernel_rfl) [(0, .r), (1, .d), (2, .d)] rfl ?_
   refine r_r rfl rfl rfl (t_loadRef rfl rfl (.head _) rfl rfl (by exact ty_int) rfl) ?_
   refine r_d rfl rfl rfl (s_arW rfl rfl rfl rfl) ?_
   refine r_d rfl rfl rfl (s_assign rfl rfl) ?_
   refine r_end ?_
   refine g_perm [_, _, _, _] _ ((((pf0 _).trans (pf2 _ _ _ _)).trans (pf2 _ _ _ _)).trans (pf3 _ _ _ _ _)) ?_
   obtain rfl := Option.some.inj hr
   refine g_ret Try.func22 _ (.cons (resTmp rfl (Wk.refl _)) .nil) ?_
   exact ⟨u21_5, rfl, rfl⟩

noncomputable def lf_normal_renamed_s1_L0 (k : ((List T)) → ((List (Int × Bool))) → ((List Gl)) → (Int) → Option ((List T) × (List (Int × Bool)) × (List Gl) × Int)) (rec : (List T) → (List (Int × Bool)) → (List Gl) → Int → Option ((List T) × (List (Int × Bool)) × (List Gl) × Int)) : Nat → Int → (List (Int × Bool)) → (List Gl) → Int → (List T) → Option ((List T) × (List (Int × Bool)) × (List Gl) × Int)
  | 0, t12_4, mm_5, l_6, l_7, a_8 =>
  (k a_8 mm_5 l_6 l_7)
  | rest + 1, t12_4, mm_5, l_6, l_7, a_8 =>
  ((getI a_8 t12_4).bind fun q_14 =>
  (bif (q_14.k == (1 : Int)) then
  ((lf_normal_Linear_1_s1 q_14.i mm_5 l_6 l_7).bind fun r_17 =>
  (lf_normal_renamed_s1_L0 k rec rest (t12_4 + 1) r_17.2.1 r_17.2.2.1 r_17.2.2.2 (a_8.set t12_4.toNat (T.mk q_14.k r_17.1 q_14.s q_14.ar))))
  else
  (bif (q_14.k == (2 : Int)) then
  ((rec q_14.ar mm_5 l_6 l_7).bind fun r_20 =>
  (lf_normal_renamed_s1_L0 k rec rest (t12_4 + 1) r_20.2.1 r_20.2.2.1 r_20.2.2.2 (a_8.set t12_4.toNat (T.mk q_14.k q_14.i q_14.s r_20.1))))
  else
  (lf_normal_renamed_s1_L0 k rec rest (t12_4 + 1) mm_5 l_6 l_7 a_8))))
noncomputable def lf_normal_renamed_s1 : Nat → (List T) → (List (Int × Bool)) → (List Gl) → Int → Option ((List T) × (List (Int × Bool)) × (List Gl) × Int)
  | 0, _, _, _, _ => none
  | fuel + 1, l_a0, s_0, c_1, c_3 =>
    (fun (rec : (List T) → (List (Int × Bool)) → (List Gl) → Int → Option ((List T) × (List (Int × Bool)) × (List Gl) × Int)) =>
      ((appO 56 [] l_a0).bind fun l_1 =>
      (lf_normal_renamed_s1_L0 (fun a_9 mm_10 l_12 l_13 =>
      some (a_9, mm_10, l_12, l_13)) rec ((l_1.length : Int) - 0 : Int).toNat 0 s_0 c_1 c_3 l_1))) (lf_normal_renamed_s1 fuel)

set_option maxHeartbeats 1000000 in
theorem lgs_normal_renamed_s1 (fuel : Nat) (rec : (List T) → (List (Int × Bool)) → (List Gl) → Int → Option ((List T) × (List (Int × Bool)) × (List Gl) × Int)) (IHR : ∀ (l_a0 : (List T)) (s_0 : (List (Int × Bool))) (c_1 : (List Gl)) (c_3 : Int) (m_o0 : Nat) (b_o1 : Nat) (u_o2 : Value) (b_o3 : Nat) (res : (List T) × (List (Int × Bool)) × (List Gl) × Int), rec l_a0 s_0 c_1 c_3 = some res → Spec Try.prog 41 [.lst (l_a0.map encT), .clo (.func 22) [] [.ptr (.map m_o0), .ref b_o1 0 [], .ref b_o3 0 []]] [.map m_o0 (mapM' (D.int .i64) D.bool s_0), .cell b_o1 (.own u_o2 (c_1.map encG)), .row u_o2 c_1.length 45 3, .cell b_o3 (.int .i64 c_3)] (fun d σ => ∃ (u_o2' : Value), d = .lst (res.1.map encT) ∧ σ = [.map m_o0 (mapM' (D.int .i64) D.bool res.2.1), .cell b_o1 (.own u_o2' (res.2.2.1.map encG)), .row u_o2' res.2.2.1.length 45 3, .cell b_o3 (.int .i64 res.2.2.2)])) (l_a0 : (List T)) (s_0 : (List (Int × Bool))) (c_1 : (List Gl)) (c_3 : Int) (m_o0 : Nat) (b_o1 : Nat) (u_o2 : Value) (b_o3 : Nat) (res : (List T) × (List (Int × Bool)) × (List Gl) × Int)
    (hr : ((appO 56 [] l_a0).bind fun l_1 =>
(lf_normal_renamed_s1_L0 (fun a_9 mm_10 l_12 l_13 =>
some (a_9, mm_10, l_12, l_13)) rec ((l_1.length : Int) - 0 : Int).toNat 0 s_0 c_1 c_3 l_1)) = some res) : Spec Try.prog 41 [.lst (l_a0.map encT), .clo (.func 22) [] [.ptr (.map m_o0), .ref b_o1 0 [], .ref b_o3 0 []]] [.map m_o0 (mapM' (D.int .i64) D.bool s_0), .cell b_o1 (.own u_o2 (c_1.map encG)), .row u_o2 c_1.length 45 3, .cell b_o3 (.int .i64 c_3)] (fun d σ => ∃ (u_o2' : Value), d = .lst (res.1.map encT) ∧ σ = [.map m_o0 (mapM' (D.int .i64) D.bool res.2.1), .cell b_o1 (.own u_o2' (res.2.2.1.map encG)), .row u_o2' res.2.2.1.length 45 3, .cell b_o3 (.int .i64 res.2.2.2)]) := by
  refine spec_env [(0, .lst (l_a0.map encT)), (1, .clo (.func 22) [] [.ptr (.map m_o0), .ref b_o1 0 [], .ref b_o3 0 []])] Try.func41 rfl rfl fun K hK => ?_
  refine g_seq ?_
  refine g_run (by kernel_rfl) [(0, .d)] rfl ?_
  refine r_d rfl rfl rfl (s_assign rfl rfl) ?_
  refine r_end ?_
  refine g_seq ?_
  refine g_run (by kernel_rfl) [(0, .d), (1, .w), (2, .d)] rfl ?_
  refine r_d rfl rfl rfl (s_move rfl rfl) ?_
  obtain ⟨l_1, hl_1, hr⟩ := bindS hr
  refine r_w rfl rfl rfl (s_call _ rfl cl_slices_Clone_api_Term_api_Term (.cons rfl (Wk.refl _) .nil) (by exact List.Perm.refl _) (lg_slices_Clone_api_Term_api_Term l_a0 _ hl_1)) ?_
  rintro _ _ ⟨_, ⟨b9_1, rfl, rfl⟩, rfl⟩
  refine r_st ((.arr b9_1 (l_1.map encT) 36 4) :: _) rfl ?_
  refine r_d rfl rfl rfl (s_assign rfl rfl) ?_
  refine r_end ?_
  refine g_seq ?_
  refine g_seq ?_
  refine g_run (by kernel_rfl) [(0, .d), (1, .d), (2, .d)] rfl ?_
  refine r_d rfl rfl rfl (s_move rfl rfl) ?_
  refine r_d rfl rfl rfl (s_lenA rfl Try.underlying31 rfl) ?_
  refine r_d rfl rfl rfl (s_move rfl rfl) ?_
  refine r_end ?_
  obtain ⟨kk0, hkk0, hr⟩ := exK (fun k => lf_normal_renamed_s1_L0 k rec ((l_1.length : Int) - 0 : Int).toNat 0 s_0 c_1 c_3 l_1) hr
  refine g_int 11 rfl fun hla0 => ?_
  refine g_blockJ (fun env σ => ∃ (a_9 : (List T)) (mm_10 : (List (Int × Bool))) (l_12 : (List Gl)) (l_13 : Int) (u_11 : Value), env = [(5, .arr b9_1 4 0 l_1.length)] ∧ σ = [.arr b9_1 (a_9.map encT) 36 4, .map m_o0 (mapM' (D.int .i64) D.bool mm_10), .cell b_o1 (.own u_11 (l_12.map encG)), .row u_11 l_12.length 45 3, .cell b_o3 (.int .i64 l_13)] ∧ a_9.length = l_1.length ∧ kk0 a_9 mm_10 l_12 l_13 = some res) ?_ (fun HK0 => ?_)
  ·
   rintro _ _ ⟨a_9, mm_10, l_12, l_13, u_11, rfl, rfl, hl_a_9, hr⟩
   rw [hkk0] at hr
   refine g_seq ?_
   refine g_run (by kernel_rfl) [(0, .d), (1, .d)] rfl ?_
   refine r_d rfl rfl rfl (s_move rfl rfl) ?_
   refine r_d rfl rfl rfl (s_assign rfl rfl) ?_
   refine r_end ?_
   refine g_freezeArr (l := a_9.map encT) 4 rfl (pf0 _) (by rw [List.length_map]; exact Eq.symm hl_a_9) ?_
   obtain rfl := Option.some.inj hr
   refine g_ret Try.func41 _ (.cons (resTmp rfl (Wk.refl _)) .nil) ?_
   exact ⟨u_11, rfl, rfl⟩
  ·
   refine g_sub [(1, .clo (.func 22) [] [.ptr (.map m_o0), .ref b_o1 0 [], .ref b_o3 0 []]), (5, .arr b9_1 4 0 l_1.length), (10, .arr b9_1 4 0 l_1.length), (11, .int .i64 (l_1.length : Int)), (12, .int .i64 0)] (Sub.cons' rfl (Sub.cons' rfl (Sub.cons' rfl (Sub.cons' rfl (Sub.cons' rfl (Sub.nil _)))))) ?_
   refine g_perm [_, _, _, _, _] _ (((((pf0 _).trans (pf4 _ _ _ _ _ _)).trans (pf4 _ _ _ _ _ _)).trans (pf4 _ _ _ _ _ _)).trans (pf4 _ _ _ _ _ _)) ?_
   refine g_loop (fun n env σ => ∃ (t12_4 : Int) (mm_5 : (List (Int × Bool))) (l_6 : (List Gl)) (l_7 : Int) (a_8 : (List T)) (u_3 : Value) (m0 : Nat), (m0 = n) ∧ (env = [(1, .clo (.func 22) [] [.ptr (.map m_o0), .ref b_o1 0 [], .ref b_o3 0 []]), (5, .arr b9_1 4 0 l_1.length), (10, .arr b9_1 4 0 l_1.length), (11, .int .i64 (l_1.length : Int)), (12, .int .i64 t12_4)]) ∧ (σ = [.map m_o0 (mapM' (D.int .i64) D.bool mm_5), .cell b_o1 (.own u_3 (l_6.map encG)), .row u_3 l_6.length 45 3, .cell b_o3 (.int .i64 l_7), .arr b9_1 (a_8.map encT) 36 4]) ∧ (a_8.length = l_1.length) ∧ (m0 = ((l_1.length : Int) - t12_4 : Int).toNat) ∧ (lf_normal_renamed_s1_L0 kk0 rec m0 t12_4 mm_5 l_6 l_7 a_8 = some res)) _ ⟨0, s_0, c_1, c_3, l_1, u_o2, _, rfl, rfl, rfl, rfl, rfl, hr⟩ ?_
   rintro n _ _ ⟨t12_4, mm_5, l_6, l_7, a_8, u_3, m0, rfl, rfl, rfl, hl_a_8, hi0, hr⟩ IH0
   refine g_int 12 rfl fun hb0 => ?_
   rcases cntStep t12_4 (l_1.length : Int) m0 hi0 with ⟨hm0, ht0⟩ | ⟨m0', hm0, ht0, hi0', hlt0⟩
   ·
    rw [hm0, lf_normal_renamed_s1_L0] at hr
    refine g_seq ?_
    refine g_run (by kernel_rfl) [(0, .d)] rfl ?_
    refine r_d rfl rfl rfl (s_cmp rfl rfl rfl rfl) ?_
    refine r_end ?_
    refine g_seq ?_
    refine g_known 13 false rfl ht0 ?_
    refine g_condF rfl ?_
    refine g_exit rfl ?_
    refine g_sub [(5, .arr b9_1 4 0 l_1.length)] (Sub.cons' rfl (Sub.nil _)) ?_
    refine g_perm [_, _, _, _, _] _ (((((pf3 _ _ _ _ _).trans (pf3 _ _ _ _ _)).trans (pf3 _ _ _ _ _)).trans (pf3 _ _ _ _ _)).trans (pf4 _ _ _ _ _ _)) ?_
    exact HK0 _ _ ⟨a_8, mm_5, l_6, l_7, u_3, rfl, rfl, hl_a_8, hr⟩
   ·
    rw [hm0, lf_normal_renamed_s1_L0] at hr
    refine g_seq ?_
    refine g_run (by kernel_rfl) [(0, .d)] rfl ?_
    refine r_d rfl rfl rfl (s_cmp rfl rfl rfl rfl) ?_
    refine r_end ?_
    refine g_seq ?_
    refine g_known 13 true rfl ht0 ?_
    refine g_condT rfl ?_
    refine g_skip ?_
    refine g_seq ?_
    refine g_block ?_
    refine g_seq ?_
    refine g_run (by kernel_rfl) [(0, .d), (1, .d), (2, .r), (3, .w), (4, .d), (5, .w)] rfl ?_
    refine r_d rfl rfl rfl (s_move rfl rfl) ?_
    obtain ⟨q_14, hq_14, hr⟩ := bindS hr
    have hq_14_n := (getI_some hq_14).2
    refine r_d rfl rfl rfl (m_indexArr0 a_8 rfl el_L_api_Term rfl rfl hq_14 hl_a_8) ?_
    refine r_r rfl rfl rfl (t_loadM rfl rfl (.tail _ (.tail _ (.tail _ (.tail _ (.head _))))) (getm hq_14_n) rfl rfl (by exact ty_api_Term) (sz_encT _)) ?_
    refine r_w rfl rfl rfl (s_alloc rfl zv_api_Term) ?_
    rintro _ _ ⟨b7_14, rfl, rfl⟩
    refine r_d rfl rfl rfl (s_assign rfl rfl) ?_
    refine r_w01 rfl rfl rfl (t_store0 _ rfl rfl rfl (Wk.refl _) (pf0 _) (by exact ty_api_Term) (sz_encT _) rfl rfl) ?_
    refine r_end ?_
    refine g_freeze 7 b7_14 rfl (pf0 _) ?_
    refine g_seq ?_
    refine g_run (by kernel_rfl) [(0, .d), (1, .d)] rfl ?_
    refine r_d rfl rfl rfl (s_fieldAddr rfl fl_api_Term_0 rfl (fsT_get0 _) (fsT_off0 _) rfl) ?_
    refine r_d rfl rfl rfl (s_load rfl rfl (by exact ty_int) rfl) ?_
    refine r_end ?_
    refine g_block ?_
    refine g_seq ?_
    refine g_run (by kernel_rfl) [(0, .d), (1, .d)] rfl ?_
    refine r_d rfl rfl rfl (s_cmp rfl rfl rfl rfl) ?_
    refine r_d rfl rfl rfl (s_assign rfl rfl) ?_
    refine r_end ?_
    refine g_sB 19 rfl hr (fun h19_15 hr => ?_) (fun h19_15 hr => ?_)
    ·
     refine g_condT rfl ?_
     refine g_run (by kernel_rfl) [(0, .d), (1, .d), (2, .d), (3, .d), (4, .d), (5, .w), (6, .d), (7, .d), (8, .w)] rfl ?_
     refine r_d rfl rfl rfl (s_move rfl rfl) ?_
     refine r_d rfl rfl rfl (s_move rfl rfl) ?_
     refine r_d rfl rfl rfl (s_move rfl rfl) ?_
     refine r_d rfl rfl rfl (s_fieldAddr rfl fl_api_Term_1 rfl (fsT_get1 _) (fsT_off1 _) rfl) ?_
     refine r_d rfl rfl rfl (s_load rfl rfl (by exact ty_int) rfl) ?_
     obtain ⟨r_17, hr_17, hr⟩ := bindS hr
     refine r_w rfl rfl rfl (s_callV _ rfl rfl cl_normal_Linear_1 (.cons rfl (Wk.refl _) .nil) rfl (by exact ((((pf3 _ _ _ _ _).trans (pf3 _ _ _ _ _)).trans (pf3 _ _ _ _ _)).trans (pf3 _ _ _ _ _))) (lg_normal_Linear_1_s1 _ _ _ _ _ _ _ _ _ hr_17)) ?_
     rintro _ _ ⟨_, ⟨u26_17, rfl, rfl⟩, rfl⟩
     refine r_st ((.map m_o0 (mapM' (D.int .i64) D.bool r_17.2.1)) :: (.cell b_o1 (.own u26_17 (r_17.2.2.1.map encG))) :: (.row u26_17 r_17.2.2.1.length 45 3) :: (.cell b_o3 (.int .i64 r_17.2.2.2)) :: _) rfl ?_
     have hq_14_n := (getI_some hq_14).2
     refine r_d rfl rfl rfl (m_indexArr0 a_8 rfl el_L_api_Term rfl rfl hq_14 hl_a_8) ?_
     refine r_d rfl rfl rfl (s_fieldM rfl fl_api_Term_1 rfl) ?_
     refine r_w01 rfl rfl rfl (t_storeM _ rfl rfl rfl (Wk.refl _) (pf4 _ _ _ _ _ _) (getm hq_14_n) rfl (subT1 _) (offT1 _) (by exact ty_int) rfl rfl rfl) ?_
     refine r_st [.arr b9_1 ((a_8.set t12_4.toNat (T.mk q_14.k r_17.1 q_14.s q_14.ar)).map encT) 36 4, .map m_o0 (mapM' (D.int .i64) D.bool r_17.2.1), .cell b_o1 (.own u26_17 (r_17.2.2.1.map encG)), .row u26_17 r_17.2.2.1.length 45 3, .cell b_o3 (.int .i64 r_17.2.2.2)] (by simp only [List.map_set, List.nil_append, setT1]) ?_
     refine r_end ?_
     refine g_inBlock ?_
     refine g_inBlock ?_
     refine g_run (by kernel_rfl) [(0, .d), (1, .d)] rfl ?_
     refine r_d rfl rfl rfl (s_ar (r := t12_4 + 1) rfl rfl rfl rfl (by omega)) ?_
     refine r_d rfl rfl rfl (s_move rfl rfl) ?_
     refine r_end ?_
     refine g_sub [(1, .clo (.func 22) [] [.ptr (.map m_o0), .ref b_o1 0 [], .ref b_o3 0 []]), (5, .arr b9_1 4 0 l_1.length), (10, .arr b9_1 4 0 l_1.length), (11, .int .i64 (l_1.length : Int)), (12, .int .i64 (t12_4 + 1))] (Sub.cons' rfl (Sub.cons' rfl (Sub.cons' rfl (Sub.cons' rfl (Sub.cons' rfl (Sub.nil _)))))) ?_
     refine g_perm [_, _, _, _, _] _ (((((pf0 _).trans (pf4 _ _ _ _ _ _)).trans (pf4 _ _ _ _ _ _)).trans (pf4 _ _ _ _ _ _)).trans (pf4 _ _ _ _ _ _)) ?_
     exact IH0 _ _ _ (by omega) ⟨(t12_4 + 1), r_17.2.1, r_17.2.2.1, r_17.2.2.2, (a_8.set t12_4.toNat (T.mk q_14.k r_17.1 q_14.s q_14.ar)), u26_17, _, rfl, rfl, rfl, (List.length_set.trans hl_a_8), hi0', hr⟩
    ·
     refine g_condF rfl ?_
     refine g_seq ?_
     refine g_run (by kernel_rfl) [(0, .d), (1, .d)] rfl ?_
     refine r_d rfl rfl rfl (s_cmp rfl rfl rfl rfl) ?_
     refine r_d rfl rfl rfl (s_assign rfl rfl) ?_
     refine r_end ?_
     refine g_sB 29 rfl hr (fun h29_18 hr => ?_) (fun h29_18 hr => ?_)
     ·
      refine g_condT rfl ?_
      refine g_run (by kernel_rfl) [(0, .d), (1, .d), (2, .d), (3, .d), (4, .d), (5, .w), (6, .d), (7, .d), (8, .w)] rfl ?_
      refine r_d rfl rfl rfl (s_move rfl rfl) ?_
      refine r_d rfl rfl rfl (s_move rfl rfl) ?_
      refine r_d rfl rfl rfl (s_fieldAddr rfl fl_api_Term_3 rfl (fsT_get3 _) (fsT_off3 _) rfl) ?_
      refine r_d rfl rfl rfl (s_load rfl rfl (by exact ty_L_api_Term) rfl) ?_
      refine r_d rfl rfl rfl (s_move rfl rfl) ?_
      obtain ⟨r_20, hr_20, hr⟩ := bindS hr
      refine r_w rfl rfl rfl (s_call _ rfl cl_normal_renamed (.cons rfl (Wk.refl _) (.cons rfl (Wk.refl _) .nil)) (by exact ((((pf3 _ _ _ _ _).trans (pf3 _ _ _ _ _)).trans (pf3 _ _ _ _ _)).trans (pf3 _ _ _ _ _))) (IHR _ _ _ _ _ _ _ _ _ hr_20)) ?_
      rintro _ _ ⟨_, ⟨u36_20, rfl, rfl⟩, rfl⟩
      refine r_st ((.map m_o0 (mapM' (D.int .i64) D.bool r_20.2.1)) :: (.cell b_o1 (.own u36_20 (r_20.2.2.1.map encG))) :: (.row u36_20 r_20.2.2.1.length 45 3) :: (.cell b_o3 (.int .i64 r_20.2.2.2)) :: _) rfl ?_
      have hq_14_n := (getI_some hq_14).2
      refine r_d rfl rfl rfl (m_indexArr0 a_8 rfl el_L_api_Term rfl rfl hq_14 hl_a_8) ?_
      refine r_d rfl rfl rfl (s_fieldM rfl fl_api_Term_3 rfl) ?_
      refine r_w01 rfl rfl rfl (t_storeM _ rfl rfl rfl (Wk.refl _) (pf4 _ _ _ _ _ _) (getm hq_14_n) rfl (subT3 _) (offT3 _) (by exact ty_L_api_Term) rfl rfl rfl) ?_
      refine r_st [.arr b9_1 ((a_8.set t12_4.toNat (T.mk q_14.k q_14.i q_14.s r_20.1)).map encT) 36 4, .map m_o0 (mapM' (D.int .i64) D.bool r_20.2.1), .cell b_o1 (.own u36_20 (r_20.2.2.1.map encG)), .row u36_20 r_20.2.2.1.length 45 3, .cell b_o3 (.int .i64 r_20.2.2.2)] (by simp only [List.map_set, List.nil_append, setT3]) ?_
      refine r_end ?_
      refine g_inBlock ?_
      refine g_inBlock ?_
      refine g_run (by kernel_rfl) [(0, .d), (1, .d)] rfl ?_
      refine r_d rfl rfl rfl (s_ar (r := t12_4 + 1) rfl rfl rfl rfl (by omega)) ?_
      refine r_d rfl rfl rfl (s_move rfl rfl) ?_
      refine r_end ?_
      refine g_sub [(1, .clo (.func 22) [] [.ptr (.map m_o0), .ref b_o1 0 [], .ref b_o3 0 []]), (5, .arr b9_1 4 0 l_1.length), (10, .arr b9_1 4 0 l_1.length), (11, .int .i64 (l_1.length : Int)), (12, .int .i64 (t12_4 + 1))] (Sub.cons' rfl (Sub.cons' rfl (Sub.cons' rfl (Sub.cons' rfl (Sub.cons' rfl (Sub.nil _)))))) ?_
      refine g_perm [_, _, _, _, _] _ (((((pf0 _).trans (pf4 _ _ _ _ _ _)).trans (pf4 _ _ _ _ _ _)).trans (pf4 _ _ _ _ _ _)).trans (pf4 _ _ _ _ _ _)) ?_
      exact IH0 _ _ _ (by omega) ⟨(t12_4 + 1), r_20.2.1, r_20.2.2.1, r_20.2.2.2, (a_8.set t12_4.toNat (T.mk q_14.k q_14.i q_14.s r_20.1)), u36_20, _, rfl, rfl, rfl, (List.length_set.trans hl_a_8), hi0', hr⟩
     ·
      refine g_condF rfl ?_
      refine g_skip ?_
      refine g_inBlock ?_
      refine g_inBlock ?_
      refine g_run (by kernel_rfl) [(0, .d), (1, .d)] rfl ?_
      refine r_d rfl rfl rfl (s_ar (r := t12_4 + 1) rfl rfl rfl rfl (by omega)) ?_
      refine r_d rfl rfl rfl (s_move rfl rfl) ?_
      refine r_end ?_
      refine g_sub [(1, .clo (.func 22) [] [.ptr (.map m_o0), .ref b_o1 0 [], .ref b_o3 0 []]), (5, .arr b9_1 4 0 l_1.length), (10, .arr b9_1 4 0 l_1.length), (11, .int .i64 (l_1.length : Int)), (12, .int .i64 (t12_4 + 1))] (Sub.cons' rfl (Sub.cons' rfl (Sub.cons' rfl (Sub.cons' rfl (Sub.cons' rfl (Sub.nil _)))))) ?_
      exact IH0 _ _ _ (by omega) ⟨(t12_4 + 1), mm_5, l_6, l_7, a_8, u_3, _, rfl, rfl, rfl, hl_a_8, hi0', hr⟩
theorem lg_normal_renamed_s1 : ∀ (fuel : Nat) (l_a0 : (List T)) (s_0 : (List (Int × Bool))) (c_1 : (List Gl)) (c_3 : Int) (m_o0 : Nat) (b_o1 : Nat) (u_o2 : Value) (b_o3 : Nat) (res : (List T) × (List (Int × Bool)) × (List Gl) × Int), lf_normal_renamed_s1 fuel l_a0 s_0 c_1 c_3 = some res → Spec Try.prog 41 [.lst (l_a0.map encT), .clo (.func 22) [] [.ptr (.map m_o0), .ref b_o1 0 [], .ref b_o3 0 []]] [.map m_o0 (mapM' (D.int .i64) D.bool s_0), .cell b_o1 (.own u_o2 (c_1.map encG)), .row u_o2 c_1.length 45 3, .cell b_o3 (.int .i64 c_3)] (fun d σ => ∃ (u_o2' : Value), d = .lst (res.1.map encT) ∧ σ = [.map m_o0 (mapM' (D.int .i64) D.bool res.2.1), .cell b_o1 (.own u_o2' (res.2.2.1.map encG)), .row u_o2' res.2.2.1.length 45 3, .cell b_o3 (.int .i64 res.2.2.2)])
  | 0, _, _, _, _, _, _, _, _, _, h => by cases h
  | fuel + 1, l_a0, s_0, c_1, c_3, m_o0, b_o1, u_o2, b_o3, res, h => lgs_normal_renamed_s1 fuel (lf_normal_renamed_s1 fuel) (lg_normal_renamed_s1 fuel) l_a0 s_0 c_1 c_3 m_o0 b_o1 u_o2 b_o3 res h

noncomputable def lf_normal_heads_s1_L0 (k : ((List At)) → ((List (Int × Bool))) → ((List Gl)) → (Int) → Option ((List At) × (List (Int × Bool)) × (List Gl) × Int)) (fuel : Nat) : Nat → Int → (List (Int × Bool)) → (List Gl) → Int → (List At) → Option ((List At) × (List (Int × Bool)) × (List Gl) × Int)
  | 0, t11_4, mm_5, l_6, l_7, a_8 =>
  (k a_8 mm_5 l_6 l_7)
  | rest + 1, t11_4, mm_5, l_6, l_7, a_8 =>
  ((getI a_8 t11_4).bind fun q_14 =>
  ((lf_normal_renamed_s1 fuel q_14.ts mm_5 l_6 l_7).bind fun r_15 =>
  (lf_normal_heads_s1_L0 k fuel rest (t11_4 + 1) r_15.2.1 r_15.2.2.1 r_15.2.2.2 (a_8.set t11_4.toNat (⟨q_14.n, r_15.1⟩ : At)))))
noncomputable def lf_normal_heads_s1 (fuel : Nat) (l_a0 : (List At)) (s_0 : (List (Int × Bool))) (c_1 : (List Gl)) (c_3 : Int) : Option ((List At) × (List (Int × Bool)) × (List Gl) × Int) :=
  ((appO 40 [] l_a0).bind fun l_1 =>
  (lf_normal_heads_s1_L0 (fun a_9 mm_10 l_12 l_13 =>
  some (a_9, mm_10, l_12, l_13)) fuel ((l_1.length : Int) - 0 : Int).toNat 0 s_0 c_1 c_3 l_1))

set_option maxHeartbeats 1000000 in
theorem lg_normal_heads_s1 (fuel : Nat) (l_a0 : (List At)) (s_0 : (List (Int × Bool))) (c_1 : (List Gl)) (c_3 : Int) (m_o0 : Nat) (b_o1 : Nat) (u_o2 : Value) (b_o3 : Nat) (res : (List At) × (List (Int × Bool)) × (List Gl) × Int) (hr : lf_normal_heads_s1 fuel l_a0 s_0 c_1 c_3 = some res) : Spec Try.prog 24 [.lst (l_a0.map encA), .clo (.func 22) [] [.ptr (.map m_o0), .ref b_o1 0 [], .ref b_o3 0 []]] [.map m_o0 (mapM' (D.int .i64) D.bool s_0), .cell b_o1 (.own u_o2 (c_1.map encG)), .row u_o2 c_1.length 45 3, .cell b_o3 (.int .i64 c_3)] (fun d σ => ∃ (u_o2' : Value), d = .lst (res.1.map encA) ∧ σ = [.map m_o0 (mapM' (D.int .i64) D.bool res.2.1), .cell b_o1 (.own u_o2' (res.2.2.1.map encG)), .row u_o2' res.2.2.1.length 45 3, .cell b_o3 (.int .i64 res.2.2.2)]) := by
  unfold lf_normal_heads_s1 at hr
  refine spec_env [(0, .lst (l_a0.map encA)), (1, .clo (.func 22) [] [.ptr (.map m_o0), .ref b_o1 0 [], .ref b_o3 0 []])] Try.func24 rfl rfl fun K hK => ?_
  refine g_seq ?_
  refine g_run (by kernel_rfl) [(0, .d)] rfl ?_
  refine r_d rfl rfl rfl (s_assign rfl rfl) ?_
  refine r_end ?_
  refine g_seq ?_
  refine g_run (by kernel_rfl) [(0, .d), (1, .w), (2, .d)] rfl ?_
  refine r_d rfl rfl rfl (s_move rfl rfl) ?_
  obtain ⟨l_1, hl_1, hr⟩ := bindS hr
  refine r_w rfl rfl rfl (s_call _ rfl cl_slices_Clone_api_Atom_api_Atom (.cons rfl (Wk.refl _) .nil) (by exact List.Perm.refl _) (lg_slices_Clone_api_Atom_api_Atom l_a0 _ hl_1)) ?_
  rintro _ _ ⟨_, ⟨b8_1, rfl, rfl⟩, rfl⟩
  refine r_st ((.arr b8_1 (l_1.map encA) 33 2) :: _) rfl ?_
  refine r_d rfl rfl rfl (s_assign rfl rfl) ?_
  refine r_end ?_
  refine g_seq ?_
  refine g_seq ?_
  refine g_run (by kernel_rfl) [(0, .d), (1, .d), (2, .d)] rfl ?_
  refine r_d rfl rfl rfl (s_move rfl rfl) ?_
  refine r_d rfl rfl rfl (s_lenA rfl Try.underlying22 rfl) ?_
  refine r_d rfl rfl rfl (s_move rfl rfl) ?_
  refine r_end ?_
  obtain ⟨kk0, hkk0, hr⟩ := exK (fun k => lf_normal_heads_s1_L0 k fuel ((l_1.length : Int) - 0 : Int).toNat 0 s_0 c_1 c_3 l_1) hr
  refine g_int 10 rfl fun hla0 => ?_
  refine g_blockJ (fun env σ => ∃ (a_9 : (List At)) (mm_10 : (List (Int × Bool))) (l_12 : (List Gl)) (l_13 : Int) (u_11 : Value), env = [(5, .arr b8_1 2 0 l_1.length)] ∧ σ = [.arr b8_1 (a_9.map encA) 33 2, .map m_o0 (mapM' (D.int .i64) D.bool mm_10), .cell b_o1 (.own u_11 (l_12.map encG)), .row u_11 l_12.length 45 3, .cell b_o3 (.int .i64 l_13)] ∧ a_9.length = l_1.length ∧ kk0 a_9 mm_10 l_12 l_13 = some res) ?_ (fun HK0 => ?_)
  ·
   rintro _ _ ⟨a_9, mm_10, l_12, l_13, u_11, rfl, rfl, hl_a_9, hr⟩
   rw [hkk0] at hr
   refine g_seq ?_
   refine g_run (by kernel_rfl) [(0, .d), (1, .d)] rfl ?_
   refine r_d rfl rfl rfl (s_move rfl rfl) ?_
   refine r_d rfl rfl rfl (s_assign rfl rfl) ?_
   refine r_end ?_
   refine g_freezeArr (l := a_9.map encA) 4 rfl (pf0 _) (by rw [List.length_map]; exact Eq.symm hl_a_9) ?_
   obtain rfl := Option.some.inj hr
   refine g_ret Try.func24 _ (.cons (resTmp rfl (Wk.refl _)) .nil) ?_
   exact ⟨u_11, rfl, rfl⟩
  ·
   refine g_sub [(1, .clo (.func 22) [] [.ptr (.map m_o0), .ref b_o1 0 [], .ref b_o3 0 []]), (5, .arr b8_1 2 0 l_1.length), (10, .int .i64 (l_1.length : Int)), (11, .int .i64 0)] (Sub.cons' rfl (Sub.cons' rfl (Sub.cons' rfl (Sub.cons' rfl (Sub.nil _))))) ?_
   refine g_perm [_, _, _, _, _] _ (((((pf0 _).trans (pf4 _ _ _ _ _ _)).trans (pf4 _ _ _ _ _ _)).trans (pf4 _ _ _ _ _ _)).trans (pf4 _ _ _ _ _ _)) ?_
   refine g_loop (fun n env σ => ∃ (t11_4 : Int) (mm_5 : (List (Int × Bool))) (l_6 : (List Gl)) (l_7 : Int) (a_8 : (List At)) (u_3 : Value) (m0 : Nat), (m0 = n) ∧ (env = [(1, .clo (.func 22) [] [.ptr (.map m_o0), .ref b_o1 0 [], .ref b_o3 0 []]), (5, .arr b8_1 2 0 l_1.length), (10, .int .i64 (l_1.length : Int)), (11, .int .i64 t11_4)]) ∧ (σ = [.map m_o0 (mapM' (D.int .i64) D.bool mm_5), .cell b_o1 (.own u_3 (l_6.map encG)), .row u_3 l_6.length 45 3, .cell b_o3 (.int .i64 l_7), .arr b8_1 (a_8.map encA) 33 2]) ∧ (a_8.length = l_1.length) ∧ (m0 = ((l_1.length : Int) - t11_4 : Int).toNat) ∧ (lf_normal_heads_s1_L0 kk0 fuel m0 t11_4 mm_5 l_6 l_7 a_8 = some res)) _ ⟨0, s_0, c_1, c_3, l_1, u_o2, _, rfl, rfl, rfl, rfl, rfl, hr⟩ ?_
   rintro n _ _ ⟨t11_4, mm_5, l_6, l_7, a_8, u_3, m0, rfl, rfl, rfl, hl_a_8, hi0, hr⟩ IH0
   refine g_int 11 rfl fun hb0 => ?_
   rcases cntStep t11_4 (l_1.length : Int) m0 hi0 with ⟨hm0, ht0⟩ | ⟨m0', hm0, ht0, hi0', hlt0⟩
   ·
    rw [hm0, lf_normal_heads_s1_L0] at hr
    refine g_seq ?_
    refine g_run (by kernel_rfl) [(0, .d)] rfl ?_
    refine r_d rfl rfl rfl (s_cmp rfl rfl rfl rfl) ?_
    refine r_end ?_
    refine g_seq ?_
    refine g_known 12 false rfl ht0 ?_
    refine g_condF rfl ?_
    refine g_exit rfl ?_
    refine g_sub [(5, .arr b8_1 2 0 l_1.length)] (Sub.cons' rfl (Sub.nil _)) ?_
    refine g_perm [_, _, _, _, _] _ (((((pf3 _ _ _ _ _).trans (pf3 _ _ _ _ _)).trans (pf3 _ _ _ _ _)).trans (pf3 _ _ _ _ _)).trans (pf4 _ _ _ _ _ _)) ?_
    exact HK0 _ _ ⟨a_8, mm_5, l_6, l_7, u_3, rfl, rfl, hl_a_8, hr⟩
   ·
    rw [hm0, lf_normal_heads_s1_L0] at hr
    refine g_seq ?_
    refine g_run (by kernel_rfl) [(0, .d)] rfl ?_
    refine r_d rfl rfl rfl (s_cmp rfl rfl rfl rfl) ?_
    refine r_end ?_
    refine g_seq ?_
    refine g_known 12 true rfl ht0 ?_
    refine g_condT rfl ?_
    refine g_skip ?_
    refine g_seq ?_
    refine g_block ?_
    refine g_seq ?_
    refine g_run (by kernel_rfl) [(0, .d), (1, .d)] rfl ?_
    refine r_d rfl rfl rfl (s_move rfl rfl) ?_
    refine r_d rfl rfl rfl (s_assign rfl rfl) ?_
    refine r_end ?_
    refine g_run (by kernel_rfl) [(0, .d), (1, .d), (2, .d), (3, .d), (4, .d), (5, .d), (6, .r), (7, .d), (8, .w), (9, .d), (10, .d), (11, .w)] rfl ?_
    refine r_d rfl rfl rfl (s_move rfl rfl) ?_
    refine r_d rfl rfl rfl (s_move rfl rfl) ?_
    refine r_d rfl rfl rfl (s_move rfl rfl) ?_
    refine r_d rfl rfl rfl (s_move rfl rfl) ?_
    obtain ⟨q_14, hq_14, hr⟩ := bindS hr
    have hq_14_n := (getI_some hq_14).2
    refine r_d rfl rfl rfl (m_indexArr0 a_8 rfl el_L_api_Atom rfl rfl hq_14 hl_a_8) ?_
    refine r_d rfl rfl rfl (s_fieldM rfl fl_api_Atom_1 rfl) ?_
    refine r_r rfl rfl rfl (t_loadM rfl rfl (.tail _ (.tail _ (.tail _ (.tail _ (.head _))))) (getm hq_14_n) rfl rfl (by exact ty_L_api_Term) rfl) ?_
    refine r_d rfl rfl rfl (s_move rfl rfl) ?_
    obtain ⟨r_15, hr_15, hr⟩ := bindS hr
    refine r_w rfl rfl rfl (s_call _ rfl cl_normal_renamed (.cons rfl (Wk.refl _) (.cons rfl (Wk.refl _) .nil)) (by exact ((((pf3 _ _ _ _ _).trans (pf3 _ _ _ _ _)).trans (pf3 _ _ _ _ _)).trans (pf3 _ _ _ _ _))) (lg_normal_renamed_s1 fuel _ _ _ _ _ _ _ _ _ hr_15)) ?_
    rintro _ _ ⟨_, ⟨u22_15, rfl, rfl⟩, rfl⟩
    refine r_st ((.map m_o0 (mapM' (D.int .i64) D.bool r_15.2.1)) :: (.cell b_o1 (.own u22_15 (r_15.2.2.1.map encG))) :: (.row u22_15 r_15.2.2.1.length 45 3) :: (.cell b_o3 (.int .i64 r_15.2.2.2)) :: _) rfl ?_
    have hq_14_n := (getI_some hq_14).2
    refine r_d rfl rfl rfl (m_indexArr0 a_8 rfl el_L_api_Atom rfl rfl hq_14 hl_a_8) ?_
    refine r_d rfl rfl rfl (s_fieldM rfl fl_api_Atom_1 rfl) ?_
    refine r_w01 rfl rfl rfl (t_storeM _ rfl rfl rfl (Wk.refl _) (pf4 _ _ _ _ _ _) (getm hq_14_n) rfl rfl rfl (by exact ty_L_api_Term) rfl rfl rfl) ?_
    refine r_st [.arr b8_1 ((a_8.set t11_4.toNat (⟨q_14.n, r_15.1⟩ : At)).map encA) 33 2, .map m_o0 (mapM' (D.int .i64) D.bool r_15.2.1), .cell b_o1 (.own u22_15 (r_15.2.2.1.map encG)), .row u22_15 r_15.2.2.1.length 45 3, .cell b_o3 (.int .i64 r_15.2.2.2)] (by simp only [List.map_set]; rfl) ?_
    refine r_end ?_
    refine g_inBlock ?_
    refine g_run (by kernel_rfl) [(0, .d), (1, .d)] rfl ?_
    refine r_d rfl rfl rfl (s_ar (r := t11_4 + 1) rfl rfl rfl rfl (by omega)) ?_
    refine r_d rfl rfl rfl (s_move rfl rfl) ?_
    refine r_end ?_
    refine g_sub [(1, .clo (.func 22) [] [.ptr (.map m_o0), .ref b_o1 0 [], .ref b_o3 0 []]), (5, .arr b8_1 2 0 l_1.length), (10, .int .i64 (l_1.length : Int)), (11, .int .i64 (t11_4 + 1))] (Sub.cons' rfl (Sub.cons' rfl (Sub.cons' rfl (Sub.cons' rfl (Sub.nil _))))) ?_
    refine g_perm [_, _, _, _, _] _ (((((pf0 _).trans (pf4 _ _ _ _ _ _)).trans (pf4 _ _ _ _ _ _)).trans (pf4 _ _ _ _ _ _)).trans (pf4 _ _ _ _ _ _)) ?_
    exact IH0 _ _ _ (by omega) ⟨(t11_4 + 1), r_15.2.1, r_15.2.2.1, r_15.2.2.2, (a_8.set t11_4.toNat (⟨q_14.n, r_15.1⟩ : At)), u22_15, _, rfl, rfl, rfl, (List.length_set.trans hl_a_8), hi0', hr⟩

noncomputable def lf_normal_Linear (fuel : Nat) (r_a0 : S_api_Rule) : Option (S_api_Rule) :=
  ((lf_normal_numbered fuel r_a0).bind fun r_2 =>
  (bif (!r_2) then
  some (r_a0)
  else
  ((lf_normal_heads_s1 fuel r_a0.f1_Keep [] [] r_a0.f5_Vars).bind fun r_10 =>
  ((lf_normal_heads_s1 fuel r_a0.f2_Remove r_10.2.1 r_10.2.2.1 r_10.2.2.2).bind fun r_12 =>
  ((lf_slices_Concat_api_Goal_api_Goal [r_12.2.2.1, r_a0.f3_Guard]).bind fun r_14 =>
  (bif (decide ((r_14.length : Int) > (12 : Int))) then
  some (r_a0)
  else
  ((lf_source_Number fuel (⟨r_a0.f0_Name, r_10.1, r_12.1, r_14, r_a0.f4_Body, r_a0.f5_Vars⟩ : S_api_Rule)).bind fun r_16 =>
  some (r_16))))))))

set_option maxHeartbeats 1000000 in
theorem lg_normal_Linear (fuel : Nat) (r_a0 : S_api_Rule) (res : S_api_Rule) (hr : lf_normal_Linear fuel r_a0 = some res) : Gives Try.prog 7 [enc_S_api_Rule r_a0] (enc_S_api_Rule res) := by
  unfold lf_normal_Linear at hr
  refine spec_env [(0, enc_S_api_Rule r_a0)] Try.func7 rfl rfl fun K hK => ?_
  refine g_seq ?_
  refine g_run (by kernel_rfl) [(0, .d), (1, .w)] rfl ?_
  refine r_d rfl rfl rfl (s_box rfl rfl rfl) ?_
  refine r_w rfl rfl rfl (s_alloc rfl zv_api_Rule) ?_
  rintro _ _ ⟨b2_0, rfl, rfl⟩
  refine r_end ?_
  refine g_seq ?_
  refine g_seq ?_
  refine g_run (by kernel_rfl) [(0, .d), (1, .d), (2, .d)] rfl ?_
  refine r_d rfl rfl rfl (s_load rfl rfl (by exact ty_api_Rule) (sz_S_api_Rule _)) ?_
  obtain ⟨r_2, hr_2, hr⟩ := bindS hr
  refine r_d rfl rfl rfl (s_callD rfl cl_normal_numbered (.cons rfl (Wk.refl _) .nil) (lg_normal_numbered fuel _ _ hr_2)) ?_
  refine r_d rfl rfl rfl (s_not rfl rfl) ?_
  refine r_end ?_
  refine g_sB 10 rfl hr (fun h10_2 hr => ?_) (fun h10_2 hr => ?_)
  ·
   refine g_condT rfl ?_
   refine g_seq ?_
   refine g_run (by kernel_rfl) [(0, .d), (1, .w)] rfl ?_
   refine r_d rfl rfl rfl (s_load rfl rfl (by exact ty_api_Rule) (sz_S_api_Rule _)) ?_
   refine r_w01 rfl rfl rfl (t_store0 _ rfl rfl rfl (Wk.refl _) (pf0 _) (by exact ty_api_Rule) (sz_S_api_Rule _) rfl rfl) ?_
   refine r_end ?_
   obtain rfl := Option.some.inj hr
   refine g_ret Try.func7 _ (.cons (resRef rfl (.head _) (by exact ty_api_Rule) (sz_S_api_Rule _) (Wk.refl _)) .nil) ?_
   rfl
  ·
   refine g_condF rfl ?_
   refine g_skip ?_
   refine g_seq ?_
   refine g_run (by kernel_rfl) [(0, .w), (1, .w), (2, .w)] rfl ?_
   refine r_w rfl rfl rfl (m_makeMap (α := Int) (β := Bool) (key := (D.int .i64)) (g := D.bool) rfl) ?_
   rintro _ _ ⟨m12_3, rfl, rfl⟩
   refine r_w rfl rfl rfl (s_alloc rfl zvx_map_int_bool) ?_
   rintro _ _ ⟨b3_4, rfl, rfl⟩
   refine r_w01 rfl rfl rfl (t_store0 _ rfl rfl rfl (Wk.refl _) (pf0 _) (by exact ty_map_int_bool) rfl rfl rfl) ?_
   refine r_end ?_
   refine g_freeze 3 b3_4 rfl (pf0 _) ?_
   refine g_seq ?_
   refine g_run (by kernel_rfl) [(0, .d), (1, .d), (2, .w), (3, .w)] rfl ?_
   refine r_d rfl rfl rfl (s_fieldAddr rfl fl_api_Rule_5 rfl rfl rfl rfl) ?_
   refine r_d rfl rfl rfl (s_load rfl rfl (by exact ty_int) rfl) ?_
   refine r_w rfl rfl rfl (s_alloc rfl zv_int) ?_
   rintro _ _ ⟨b4_5, rfl, rfl⟩
   refine r_w01 rfl rfl rfl (t_store0 _ rfl rfl rfl (Wk.refl _) (pf0 _) (by exact ty_int) rfl rfl rfl) ?_
   refine r_end ?_
   refine g_seq ?_
   refine g_run (by kernel_rfl) [(0, .w)] rfl ?_
   refine r_w rfl rfl rfl (s_allocOwn (el := 45) (s := 3) rfl zv_L_api_Goal) ?_
   rintro _ _ ⟨b5_6, u5_7, rfl, rfl⟩
   refine r_end ?_
   refine g_seq ?_
   refine g_run (by kernel_rfl) [(0, .d), (1, .d)] rfl ?_
   refine r_d rfl rfl rfl (s_makeFunc rfl rfl rfl) ?_
   refine r_d rfl rfl rfl (s_assign rfl rfl) ?_
   refine r_end ?_
   refine g_seq ?_
   refine g_run (by kernel_rfl) [(0, .d), (1, .w), (2, .w)] rfl ?_
   refine r_d rfl rfl rfl (s_load rfl rfl (by exact ty_api_Rule) (sz_S_api_Rule _)) ?_
   refine r_w rfl rfl rfl (s_alloc rfl zv_api_Rule) ?_
   rintro _ _ ⟨b7_8, rfl, rfl⟩
   refine r_w01 rfl rfl rfl (t_store0 _ rfl rfl rfl (Wk.refl _) (pf0 _) (by exact ty_api_Rule) (sz_S_api_Rule _) rfl rfl) ?_
   refine r_end ?_
   refine g_seq ?_
   refine g_run (by kernel_rfl) [(0, .d), (1, .d), (2, .d), (3, .w), (4, .d), (5, .w)] rfl ?_
   refine r_d rfl rfl rfl (s_fieldAddr rfl fl_api_Rule_1 rfl rfl rfl rfl) ?_
   refine r_d rfl rfl rfl (s_load rfl rfl (by exact ty_L_api_Atom) rfl) ?_
   refine r_d rfl rfl rfl (s_move rfl rfl) ?_
   obtain ⟨r_10, hr_10, hr⟩ := bindS hr
   refine r_w rfl rfl rfl (s_call _ rfl cl_normal_heads (.cons rfl (Wk.refl _) (.cons rfl (Wk.refl _) .nil)) (by exact ((((pf3 _ _ _ _ _).trans (pf3 _ _ _ _ _)).trans (pf3 _ _ _ _ _)).trans (pf4 _ _ _ _ _ _))) (lg_normal_heads_s1 fuel _ _ _ _ _ _ _ _ _ hr_10)) ?_
   rintro _ _ ⟨_, ⟨u20_10, rfl, rfl⟩, rfl⟩
   refine r_st ((.map m12_3 (mapM' (D.int .i64) D.bool r_10.2.1)) :: (.cell b5_6 (.own u20_10 (r_10.2.2.1.map encG))) :: (.row u20_10 r_10.2.2.1.length 45 3) :: (.cell b4_5 (.int .i64 r_10.2.2.2)) :: _) rfl ?_
   refine r_d rfl rfl rfl (s_fieldRef rfl fl_api_Rule_1 rfl) ?_
   refine r_w01 rfl rfl rfl (t_store _ rfl rfl rfl (Wk.refl _) (pf4 _ _ _ _ _ _) rfl rfl (by exact ty_L_api_Atom) rfl rfl rfl) ?_
   refine r_end ?_
   refine g_seq ?_
   refine g_run (by kernel_rfl) [(0, .d), (1, .d), (2, .d), (3, .w), (4, .d), (5, .w)] rfl ?_
   refine r_d rfl rfl rfl (s_fieldAddr rfl fl_api_Rule_2 rfl rfl rfl rfl) ?_
   refine r_d rfl rfl rfl (s_load rfl rfl (by exact ty_L_api_Atom) rfl) ?_
   refine r_d rfl rfl rfl (s_move rfl rfl) ?_
   obtain ⟨r_12, hr_12, hr⟩ := bindS hr
   refine r_w rfl rfl rfl (s_call _ rfl cl_normal_heads (.cons rfl (Wk.refl _) (.cons rfl (Wk.refl _) .nil)) (by exact ((((pf4 _ _ _ _ _ _).trans (pf4 _ _ _ _ _ _)).trans (pf4 _ _ _ _ _ _)).trans (pf4 _ _ _ _ _ _))) (lg_normal_heads_s1 fuel _ _ _ _ _ _ _ _ _ hr_12)) ?_
   rintro _ _ ⟨_, ⟨u25_12, rfl, rfl⟩, rfl⟩
   refine r_st ((.map m12_3 (mapM' (D.int .i64) D.bool r_12.2.1)) :: (.cell b5_6 (.own u25_12 (r_12.2.2.1.map encG))) :: (.row u25_12 r_12.2.2.1.length 45 3) :: (.cell b4_5 (.int .i64 r_12.2.2.2)) :: _) rfl ?_
   refine r_d rfl rfl rfl (s_fieldRef rfl fl_api_Rule_2 rfl) ?_
   refine r_w01 rfl rfl rfl (t_store _ rfl rfl rfl (Wk.refl _) (pf4 _ _ _ _ _ _) rfl rfl (by exact ty_L_api_Atom) rfl rfl rfl) ?_
   refine r_end ?_
   refine g_seq ?_
   refine g_run (by kernel_rfl) [(0, .r), (1, .d), (2, .d), (3, .d), (4, .d), (5, .d), (6, .w)] rfl ?_
   refine r_r rfl rfl rfl (t_loadRef rfl rfl (.tail _ (.tail _ (.head _))) rfl rfl (by exact ty_L_api_Goal) rfl) ?_
   refine r_d rfl rfl rfl (s_fieldAddr rfl fl_api_Rule_3 rfl rfl rfl rfl) ?_
   refine r_d rfl rfl rfl (s_load rfl rfl (by exact ty_L_api_Goal) rfl) ?_
   refine r_d rfl rfl rfl (m_lit (f := (fun l => D.lst (l.map encG))) [.tmp 27, .tmp 29] [r_12.2.2.1, r_a0.f3_Guard] rfl el_L_L_api_Goal rfl rfl (by decide) (by decide) (.cons rfl (Wk.own _ _) (.cons rfl (Wk.refl _) .nil)) (fun _ => rfl) (fun _ => rfl)) ?_
   obtain ⟨r_14, hr_14, hr⟩ := bindS hr
   refine r_d rfl rfl rfl (by exact s_callD rfl cl_slices_Concat_api_Goal_api_Goal (.cons rfl (Wk.full _) .nil) (lg_slices_Concat_api_Goal_api_Goal _ _ hr_14)) ?_
   refine r_d rfl rfl rfl (s_fieldRef rfl fl_api_Rule_3 rfl) ?_
   refine r_w01 rfl rfl rfl (t_store _ rfl rfl rfl (Wk.refl _) (pf0 _) rfl rfl (by exact ty_L_api_Goal) rfl rfl rfl) ?_
   refine r_end ?_
   refine g_seq ?_
   refine g_seq ?_
   refine g_run (by kernel_rfl) [(0, .d), (1, .r), (2, .d), (3, .d)] rfl ?_
   refine r_d rfl rfl rfl (s_fieldRef rfl fl_api_Rule_3 rfl) ?_
   refine r_r rfl rfl rfl (t_loadRef rfl rfl (.head _) rfl rfl (by exact ty_L_api_Goal) rfl) ?_
   refine r_d rfl rfl rfl (m_len (f := encG) r_14 rfl el_L_api_Goal rfl (asl rfl)) ?_
   refine r_d rfl rfl rfl (s_cmp rfl rfl rfl rfl) ?_
   refine r_end ?_
   refine g_sB 36 rfl hr (fun h36_14 hr => ?_) (fun h36_14 hr => ?_)
   ·
    refine g_condT rfl ?_
    refine g_seq ?_
    refine g_run (by kernel_rfl) [(0, .d), (1, .w)] rfl ?_
    refine r_d rfl rfl rfl (s_load rfl rfl (by exact ty_api_Rule) (sz_S_api_Rule _)) ?_
    refine r_w01 rfl rfl rfl (t_store0 _ rfl rfl rfl (Wk.refl _) (pf5 _ _ _ _ _ _ _) (by exact ty_api_Rule) (sz_S_api_Rule _) rfl rfl) ?_
    refine r_end ?_
    obtain rfl := Option.some.inj hr
    refine g_ret Try.func7 _ (.cons (resRef rfl (.head _) (by exact ty_api_Rule) (sz_S_api_Rule _) (Wk.refl _)) .nil) ?_
    rfl
   ·
    refine g_condF rfl ?_
    refine g_skip ?_
    refine g_seq ?_
    refine g_run (by kernel_rfl) [(0, .r), (1, .d), (2, .w)] rfl ?_
    refine r_r rfl rfl rfl (t_loadRef rfl rfl (.head _) rfl rfl (by exact ty_api_Rule) rfl) ?_
    obtain ⟨r_16, hr_16, hr⟩ := bindS hr
    refine r_d rfl rfl rfl (s_callD rfl cl_source_Number (.cons rfl (Wk.refl _) .nil) (lg_source_Number fuel _ _ hr_16)) ?_
    refine r_w01 rfl rfl rfl (t_store0 _ rfl rfl rfl (Wk.refl _) (pf5 _ _ _ _ _ _ _) (by exact ty_api_Rule) (sz_S_api_Rule _) rfl rfl) ?_
    refine r_end ?_
    obtain rfl := Option.some.inj hr
    refine g_ret Try.func7 _ (.cons (resRef rfl (.head _) (by exact ty_api_Rule) (sz_S_api_Rule _) (Wk.refl _)) .nil) ?_
    rfl

noncomputable def lf_constraintlaw17_leq (x_a0 : Int) (y_a1 : Int) : Option (At) :=
  ((lf_constraintref03_Var x_a0).bind fun r_2 =>
  ((lf_constraintref03_Var y_a1).bind fun r_3 =>
  some ((⟨⟨#[108, 101, 113]⟩, [r_2, r_3]⟩ : At))))

set_option maxHeartbeats 1000000 in
theorem lg_constraintlaw17_leq (x_a0 : Int) (y_a1 : Int) (res : At) (hr : lf_constraintlaw17_leq x_a0 y_a1 = some res) : Gives Try.prog 17 [.int .i64 x_a0, .int .i64 y_a1] (encA res) := by
  unfold lf_constraintlaw17_leq at hr
  refine spec_env [(0, .int .i64 x_a0), (1, .int .i64 y_a1)] Try.func17 rfl rfl fun K hK => ?_
  refine g_seq ?_
  refine g_run (by kernel_rfl) [(0, .w)] rfl ?_
  refine r_w rfl rfl rfl (s_alloc rfl zv_api_Atom) ?_
  rintro _ _ ⟨b4_0, rfl, rfl⟩
  refine r_end ?_
  refine g_seq ?_
  refine g_run (by kernel_rfl) [(0, .d), (1, .d), (2, .d), (3, .d), (4, .d), (5, .d), (6, .w)] rfl ?_
  refine r_d rfl rfl rfl (s_move rfl rfl) ?_
  obtain ⟨r_2, hr_2, hr⟩ := bindS hr
  refine r_d rfl rfl rfl (s_callD rfl cl_constraintref03_Var (.cons rfl (Wk.refl _) .nil) (lg_constraintref03_Var _ _ hr_2)) ?_
  refine r_d rfl rfl rfl (s_move rfl rfl) ?_
  obtain ⟨r_3, hr_3, hr⟩ := bindS hr
  refine r_d rfl rfl rfl (s_callD rfl cl_constraintref03_Var (.cons rfl (Wk.refl _) .nil) (lg_constraintref03_Var _ _ hr_3)) ?_
  refine r_d rfl rfl rfl (m_lit (f := encT) [.tmp 6, .tmp 8] [r_2, r_3] rfl el_L_api_Term rfl rfl (by decide) (by decide) (.cons rfl (Wk.refl _) (.cons rfl (Wk.refl _) .nil)) sz_encT (fun _ => rfl)) ?_
  refine r_d rfl rfl rfl (s_build rfl bt_api_Atom (.cons rfl (Wk.refl _) (.cons rfl (Wk.full _) .nil)) (.cons rfl rfl rfl (.cons rfl rfl rfl (.nil _)))) ?_
  refine r_w01 rfl rfl rfl (t_store0 _ rfl rfl rfl (Wk.refl _) (pf0 _) (by exact ty_api_Atom) rfl rfl rfl) ?_
  refine r_end ?_
  obtain rfl := Option.some.inj hr
  refine g_ret Try.func17 _ (.cons (resRef rfl (.head _) (by exact ty_api_Atom) rfl (Wk.refl _)) .nil) ?_
  rfl

noncomputable def lf_constraintlaw17_exampleHolds (fuel : Nat) : Option (Bool) :=
  ((lf_constraintlaw17_leq 0 1).bind fun r_1 =>
  ((lf_constraintlaw17_leq 1 0).bind fun r_2 =>
  ((lf_normal_Linear fuel (⟨⟨#[]⟩, [], [r_1, r_2], [], [], 2⟩ : S_api_Rule)).bind fun r_4 =>
  ((lf_normal_IsLinear (⟨⟨#[]⟩, [], [r_1, r_2], [], [], 2⟩ : S_api_Rule)).bind fun r_6 =>
  (bif r_6 then
  some (false)
  else
  ((lf_normal_IsLinear r_4).bind fun r_8 =>
  (bif (!r_8) then
  some (false)
  else
  (bif (r_4.f5_Vars != (4 : Int)) then
  some (false)
  else
  (bif ((r_4.f3_Guard.length : Int) != (2 : Int)) then
  some (false)
  else
  (bif ((r_4.f2_Remove.length : Int) != (2 : Int)) then
  some (false)
  else
  ((getI r_4.f3_Guard 0).bind fun q_13 =>
  ((lf_constraintref03_Var 2).bind fun r_14 =>
  ((lf_constraintref03_Var 1).bind fun r_15 =>
  ((x_sameG q_13 (⟨5, ⟨#[]⟩, [r_14, r_15]⟩ : Gl)).bind fun r_16 =>
  (bif r_16 then
  ((lf_normal_Join fuel r_4).bind fun r_18 =>
  ((lf_constraintref14_SameRule r_18 (⟨⟨#[]⟩, [], [r_1, r_2], [], [], 2⟩ : S_api_Rule)).bind fun r_19 =>
  (bif r_19 then
  ((lf_constraintlaw17_leq 7 3).bind fun r_21 =>
  ((lf_constraintlaw17_leq 3 7).bind fun r_22 =>
  ((lf_normal_Same fuel (⟨⟨#[]⟩, [], [r_1, r_2], [], [], 2⟩ : S_api_Rule) (⟨⟨#[]⟩, [], [r_21, r_22], [], [], 0⟩ : S_api_Rule)).bind fun r_23 =>
  (bif r_23 then
  ((lf_normal_Same fuel (⟨⟨#[]⟩, [], [r_1, r_2], [], [], 2⟩ : S_api_Rule) r_4).bind fun r_25 =>
  some ((!r_25)))
  else
  some (false)))))
  else
  some (false))))
  else
  some (false))))))))))))))))

set_option maxHeartbeats 1000000 in
theorem lg_constraintlaw17_exampleHolds (fuel : Nat) (res : Bool) (hr : lf_constraintlaw17_exampleHolds fuel = some res) : Gives Try.prog 6 [] (.bool res) := by
  unfold lf_constraintlaw17_exampleHolds at hr
  refine spec_env [] Try.func6 rfl rfl fun K hK => ?_
  refine g_seq ?_
  refine g_run (by kernel_rfl) [(0, .d)] rfl ?_
  refine r_d rfl rfl rfl (s_assign rfl rfl) ?_
  refine r_end ?_
  refine g_seq ?_
  refine g_run (by kernel_rfl) [(0, .d), (1, .d), (2, .d), (3, .d), (4, .w), (5, .w)] rfl ?_
  obtain ⟨r_1, hr_1, hr⟩ := bindS hr
  refine r_d rfl rfl rfl (s_callD rfl cl_constraintlaw17_leq (.cons rfl (Wk.refl _) (.cons rfl (Wk.refl _) .nil)) (lg_constraintlaw17_leq _ _ _ hr_1)) ?_
  obtain ⟨r_2, hr_2, hr⟩ := bindS hr
  refine r_d rfl rfl rfl (s_callD rfl cl_constraintlaw17_leq (.cons rfl (Wk.refl _) (.cons rfl (Wk.refl _) .nil)) (lg_constraintlaw17_leq _ _ _ hr_2)) ?_
  refine r_d rfl rfl rfl (m_lit (f := encA) [.tmp 3, .tmp 4] [r_1, r_2] rfl el_L_api_Atom rfl rfl (by decide) (by decide) (.cons rfl (Wk.refl _) (.cons rfl (Wk.refl _) .nil)) sz_encA (fun _ => rfl)) ?_
  refine r_d rfl rfl rfl (s_build rfl bt_api_Rule (.cons rfl (Wk.full _) (.cons rfl (Wk.refl _) .nil)) (.cons rfl rfl rfl (.cons rfl rfl rfl (.nil _)))) ?_
  refine r_w rfl rfl rfl (s_alloc rfl zv_api_Rule) ?_
  rintro _ _ ⟨b1_2, rfl, rfl⟩
  refine r_w01 rfl rfl rfl (t_store0 _ rfl rfl rfl (Wk.refl _) (pf0 _) (by exact ty_api_Rule) rfl rfl rfl) ?_
  refine r_end ?_
  refine g_freeze 1 b1_2 rfl (pf0 _) ?_
  refine g_seq ?_
  refine g_run (by kernel_rfl) [(0, .d), (1, .d), (2, .w), (3, .w)] rfl ?_
  refine r_d rfl rfl rfl (s_load rfl rfl (by exact ty_api_Rule) rfl) ?_
  obtain ⟨r_4, hr_4, hr⟩ := bindS hr
  refine r_d rfl rfl rfl (s_callD rfl cl_normal_Linear (.cons rfl (Wk.refl _) .nil) (lg_normal_Linear fuel _ _ hr_4)) ?_
  refine r_w rfl rfl rfl (s_alloc rfl zv_api_Rule) ?_
  rintro _ _ ⟨b2_4, rfl, rfl⟩
  refine r_w01 rfl rfl rfl (t_store0 _ rfl rfl rfl (Wk.refl _) (pf0 _) (by exact ty_api_Rule) (sz_S_api_Rule _) rfl rfl) ?_
  refine r_end ?_
  refine g_freeze 2 b2_4 rfl (pf0 _) ?_
  refine g_seq ?_
  refine g_seq ?_
  refine g_run (by kernel_rfl) [(0, .d), (1, .d), (2, .d), (3, .d), (4, .d), (5, .d), (6, .d), (7, .d), (8, .d), (9, .d), (10, .d), (11, .d), (12, .d), (13, .d), (14, .d), (15, .d), (16, .d), (17, .d), (18, .d), (19, .d), (20, .d), (21, .d), (22, .d), (23, .d)] rfl ?_
  refine r_d rfl rfl rfl (s_load rfl rfl (by exact ty_api_Rule) rfl) ?_
  obtain ⟨r_6, hr_6, hr⟩ := bindS hr
  refine r_d rfl rfl rfl (s_callD rfl cl_normal_IsLinear (.cons rfl (Wk.refl _) .nil) (lg_normal_IsLinear _ _ hr_6)) ?_
  refine r_d rfl rfl rfl (s_move rfl rfl) ?_
  refine r_sB 11 rfl hr (fun h11_6 hr => ?_) (fun h11_6 hr => ?_)
  ·
   refine r_skip rfl rfl rfl ?_
   refine r_skip rfl rfl rfl ?_
   refine r_skip rfl rfl rfl ?_
   refine r_d rfl rfl rfl (s_pickT rfl rfl rfl) ?_
   refine r_d rfl rfl rfl (s_move rfl rfl) ?_
   refine r_skip rfl rfl rfl ?_
   refine r_skip rfl rfl rfl ?_
   refine r_skip rfl rfl rfl ?_
   refine r_d rfl rfl rfl (s_pickT rfl rfl rfl) ?_
   refine r_d rfl rfl rfl (s_move rfl rfl) ?_
   refine r_skip rfl rfl rfl ?_
   refine r_skip rfl rfl rfl ?_
   refine r_skip rfl rfl rfl ?_
   refine r_skip rfl rfl rfl ?_
   refine r_d rfl rfl rfl (s_pickT rfl rfl rfl) ?_
   refine r_d rfl rfl rfl (s_move rfl rfl) ?_
   refine r_skip rfl rfl rfl ?_
   refine r_skip rfl rfl rfl ?_
   refine r_skip rfl rfl rfl ?_
   refine r_skip rfl rfl rfl ?_
   refine r_d rfl rfl rfl (s_pickT rfl rfl rfl) ?_
   refine r_end ?_
   refine g_condT rfl ?_
   refine g_seq ?_
   refine g_run (by kernel_rfl) [(0, .d)] rfl ?_
   refine r_d rfl rfl rfl (s_assign rfl rfl) ?_
   refine r_end ?_
   obtain rfl := Option.some.inj hr
   refine g_ret Try.func6 _ (.cons (resTmp rfl (Wk.refl _)) .nil) ?_
   rfl
  ·
   refine r_d rfl rfl rfl (s_load rfl rfl (by exact ty_api_Rule) (sz_S_api_Rule _)) ?_
   obtain ⟨r_8, hr_8, hr⟩ := bindS hr
   refine r_d rfl rfl rfl (s_callD rfl cl_normal_IsLinear (.cons rfl (Wk.refl _) .nil) (lg_normal_IsLinear _ _ hr_8)) ?_
   refine r_d rfl rfl rfl (s_not rfl rfl) ?_
   refine r_d rfl rfl rfl (s_pickF rfl rfl rfl) ?_
   refine r_d rfl rfl rfl (s_move rfl rfl) ?_
   refine r_sB 16 rfl hr (fun h16_8 hr => ?_) (fun h16_8 hr => ?_)
   ·
    refine r_skip rfl rfl rfl ?_
    refine r_skip rfl rfl rfl ?_
    refine r_skip rfl rfl rfl ?_
    refine r_d rfl rfl rfl (s_pickT rfl rfl rfl) ?_
    refine r_d rfl rfl rfl (s_move rfl rfl) ?_
    refine r_skip rfl rfl rfl ?_
    refine r_skip rfl rfl rfl ?_
    refine r_skip rfl rfl rfl ?_
    refine r_skip rfl rfl rfl ?_
    refine r_d rfl rfl rfl (s_pickT rfl rfl rfl) ?_
    refine r_d rfl rfl rfl (s_move rfl rfl) ?_
    refine r_skip rfl rfl rfl ?_
    refine r_skip rfl rfl rfl ?_
    refine r_skip rfl rfl rfl ?_
    refine r_skip rfl rfl rfl ?_
    refine r_d rfl rfl rfl (s_pickT rfl rfl rfl) ?_
    refine r_end ?_
    refine g_condT rfl ?_
    refine g_seq ?_
    refine g_run (by kernel_rfl) [(0, .d)] rfl ?_
    refine r_d rfl rfl rfl (s_assign rfl rfl) ?_
    refine r_end ?_
    obtain rfl := Option.some.inj hr
    refine g_ret Try.func6 _ (.cons (resTmp rfl (Wk.refl _)) .nil) ?_
    rfl
   ·
    refine r_d rfl rfl rfl (s_fieldAddr rfl fl_api_Rule_5 rfl rfl rfl rfl) ?_
    refine r_d rfl rfl rfl (s_load rfl rfl (by exact ty_int) rfl) ?_
    refine r_d rfl rfl rfl (s_cmp rfl rfl rfl rfl) ?_
    refine r_d rfl rfl rfl (s_pickF rfl rfl rfl) ?_
    refine r_d rfl rfl rfl (s_move rfl rfl) ?_
    refine r_sB 21 rfl hr (fun h21_9 hr => ?_) (fun h21_9 hr => ?_)
    ·
     refine r_skip rfl rfl rfl ?_
     refine r_skip rfl rfl rfl ?_
     refine r_skip rfl rfl rfl ?_
     refine r_skip rfl rfl rfl ?_
     refine r_d rfl rfl rfl (s_pickT rfl rfl rfl) ?_
     refine r_d rfl rfl rfl (s_move rfl rfl) ?_
     refine r_skip rfl rfl rfl ?_
     refine r_skip rfl rfl rfl ?_
     refine r_skip rfl rfl rfl ?_
     refine r_skip rfl rfl rfl ?_
     refine r_d rfl rfl rfl (s_pickT rfl rfl rfl) ?_
     refine r_end ?_
     refine g_condT rfl ?_
     refine g_seq ?_
     refine g_run (by kernel_rfl) [(0, .d)] rfl ?_
     refine r_d rfl rfl rfl (s_assign rfl rfl) ?_
     refine r_end ?_
     obtain rfl := Option.some.inj hr
     refine g_ret Try.func6 _ (.cons (resTmp rfl (Wk.refl _)) .nil) ?_
     rfl
    ·
     refine r_d rfl rfl rfl (s_fieldAddr rfl fl_api_Rule_3 rfl rfl rfl rfl) ?_
     refine r_d rfl rfl rfl (s_load rfl rfl (by exact ty_L_api_Goal) rfl) ?_
     refine r_d rfl rfl rfl (m_len (f := encG) r_4.f3_Guard rfl el_L_api_Goal rfl (asl rfl)) ?_
     refine r_d rfl rfl rfl (s_cmp rfl rfl rfl rfl) ?_
     refine r_d rfl rfl rfl (s_pickF rfl rfl rfl) ?_
     refine r_d rfl rfl rfl (s_move rfl rfl) ?_
     refine r_sB 27 rfl hr (fun h27_10 hr => ?_) (fun h27_10 hr => ?_)
     ·
      refine r_skip rfl rfl rfl ?_
      refine r_skip rfl rfl rfl ?_
      refine r_skip rfl rfl rfl ?_
      refine r_skip rfl rfl rfl ?_
      refine r_d rfl rfl rfl (s_pickT rfl rfl rfl) ?_
      refine r_end ?_
      refine g_condT rfl ?_
      refine g_seq ?_
      refine g_run (by kernel_rfl) [(0, .d)] rfl ?_
      refine r_d rfl rfl rfl (s_assign rfl rfl) ?_
      refine r_end ?_
      obtain rfl := Option.some.inj hr
      refine g_ret Try.func6 _ (.cons (resTmp rfl (Wk.refl _)) .nil) ?_
      rfl
     ·
      refine r_d rfl rfl rfl (s_fieldAddr rfl fl_api_Rule_2 rfl rfl rfl rfl) ?_
      refine r_d rfl rfl rfl (s_load rfl rfl (by exact ty_L_api_Atom) rfl) ?_
      refine r_d rfl rfl rfl (m_len (f := encA) r_4.f2_Remove rfl el_L_api_Atom rfl (asl rfl)) ?_
      refine r_d rfl rfl rfl (s_cmp rfl rfl rfl rfl) ?_
      refine r_d rfl rfl rfl (s_pickF rfl rfl rfl) ?_
      refine r_end ?_
      refine g_sB 32 rfl hr (fun h32_11 hr => ?_) (fun h32_11 hr => ?_)
      ·
       refine g_condT rfl ?_
       refine g_seq ?_
       refine g_run (by kernel_rfl) [(0, .d)] rfl ?_
       refine r_d rfl rfl rfl (s_assign rfl rfl) ?_
       refine r_end ?_
       obtain rfl := Option.some.inj hr
       refine g_ret Try.func6 _ (.cons (resTmp rfl (Wk.refl _)) .nil) ?_
       rfl
      ·
       refine g_condF rfl ?_
       refine g_skip ?_
       refine g_seq ?_
       refine g_any (by kernel_rfl) (by kernel_rfl) [(0, .d), (1, .d), (2, .d), (3, .d), (4, .d), (5, .d), (6, .d), (7, .d), (8, .d), (9, .d), (10, .d), (11, .d), (12, .d), (13, .d), (14, .d), (15, .d), (16, .d), (17, .d), (18, .d), (19, .d), (20, .d), (21, .d), (22, .d), (23, .d), (24, .d), (25, .d), (26, .d), (27, .d), (28, .d), (29, .d)] (by kernel_rfl) ?_
       refine r_d rfl rfl rfl (s_fieldAddr rfl fl_api_Rule_3 rfl rfl rfl rfl) ?_
       refine r_d rfl rfl rfl (s_load rfl rfl (by exact ty_L_api_Goal) rfl) ?_
       obtain ⟨q_13, hq_13, hr⟩ := bindS hr
       refine r_d rfl rfl rfl (m_index (f := encG) r_4.f3_Guard rfl el_L_api_Goal rfl (asl rfl) rfl hq_13 sz_encG rfl) ?_
       refine r_d rfl rfl rfl (s_load rfl rfl (by exact ty_api_Goal) (sz_encG _)) ?_
       obtain ⟨r_14, hr_14, hr⟩ := bindS hr
       refine r_d rfl rfl rfl (s_callD rfl cl_constraintref03_Var (.cons rfl (Wk.refl _) .nil) (lg_constraintref03_Var _ _ hr_14)) ?_
       obtain ⟨r_15, hr_15, hr⟩ := bindS hr
       refine r_d rfl rfl rfl (s_callD rfl cl_constraintref03_Var (.cons rfl (Wk.refl _) .nil) (lg_constraintref03_Var _ _ hr_15)) ?_
       refine r_d rfl rfl rfl (m_lit (f := encT) [.tmp 37, .tmp 38] [r_14, r_15] rfl el_L_api_Term rfl rfl (by decide) (by decide) (.cons rfl (Wk.refl _) (.cons rfl (Wk.refl _) .nil)) sz_encT (fun _ => rfl)) ?_
       refine r_d rfl rfl rfl (s_build rfl bt_api_Goal (.cons rfl (Wk.refl _) (.cons rfl (Wk.full _) .nil)) (.cons rfl rfl rfl (.cons rfl rfl rfl (.nil _)))) ?_
       obtain ⟨r_16, hr_16, hr⟩ := bindS hr
       refine r_d rfl rfl rfl (s_callD rfl cl_constraintref03_SameGoal (.cons rfl (Wk.refl _) (.cons rfl (Wk.refl _) .nil)) (lx_constraintref03_SameGoal _ _ _ hr_16)) ?_
       refine r_d rfl rfl rfl (s_move rfl rfl) ?_
       refine r_sB 42 rfl hr (fun h42_16 hr => ?_) (fun h42_16 hr => ?_)
       ·
        refine r_d rfl rfl rfl (s_load rfl rfl (by exact ty_api_Rule) (sz_S_api_Rule _)) ?_
        obtain ⟨r_18, hr_18, hr⟩ := bindS hr
        refine r_d rfl rfl rfl (s_callD rfl cl_normal_Join (.cons rfl (Wk.refl _) .nil) (lg_normal_Join fuel _ _ hr_18)) ?_
        refine r_d rfl rfl rfl (s_load rfl rfl (by exact ty_api_Rule) rfl) ?_
        obtain ⟨r_19, hr_19, hr⟩ := bindS hr
        refine r_d rfl rfl rfl (s_callD rfl cl_constraintref14_SameRule (.cons rfl (Wk.refl _) (.cons rfl (Wk.refl _) .nil)) (lg_constraintref14_SameRule _ _ _ hr_19)) ?_
        refine r_d rfl rfl rfl (s_pickT rfl rfl rfl) ?_
        refine r_d rfl rfl rfl (s_move rfl rfl) ?_
        refine r_sB 48 rfl hr (fun h48_19 hr => ?_) (fun h48_19 hr => ?_)
        ·
         refine r_d rfl rfl rfl (s_load rfl rfl (by exact ty_api_Rule) rfl) ?_
         obtain ⟨r_21, hr_21, hr⟩ := bindS hr
         refine r_d rfl rfl rfl (s_callD rfl cl_constraintlaw17_leq (.cons rfl (Wk.refl _) (.cons rfl (Wk.refl _) .nil)) (lg_constraintlaw17_leq _ _ _ hr_21)) ?_
         obtain ⟨r_22, hr_22, hr⟩ := bindS hr
         refine r_d rfl rfl rfl (s_callD rfl cl_constraintlaw17_leq (.cons rfl (Wk.refl _) (.cons rfl (Wk.refl _) .nil)) (lg_constraintlaw17_leq _ _ _ hr_22)) ?_
         refine r_d rfl rfl rfl (m_lit (f := encA) [.tmp 50, .tmp 51] [r_21, r_22] rfl el_L_api_Atom rfl rfl (by decide) (by decide) (.cons rfl (Wk.refl _) (.cons rfl (Wk.refl _) .nil)) sz_encA (fun _ => rfl)) ?_
         refine r_d rfl rfl rfl (s_build rfl bt_api_Rule (.cons rfl (Wk.full _) .nil) (.cons rfl rfl rfl (.nil _))) ?_
         obtain ⟨r_23, hr_23, hr⟩ := bindS hr
         refine r_d rfl rfl rfl (s_callD rfl cl_normal_Same (.cons rfl (Wk.refl _) (.cons rfl (Wk.refl _) .nil)) (lg_normal_Same fuel _ _ _ hr_23)) ?_
         refine r_d rfl rfl rfl (s_pickT rfl rfl rfl) ?_
         refine r_d rfl rfl rfl (s_move rfl rfl) ?_
         refine r_sB 56 rfl hr (fun h56_23 hr => ?_) (fun h56_23 hr => ?_)
         ·
          refine r_d rfl rfl rfl (s_load rfl rfl (by exact ty_api_Rule) rfl) ?_
          refine r_d rfl rfl rfl (s_load rfl rfl (by exact ty_api_Rule) (sz_S_api_Rule _)) ?_
          obtain ⟨r_25, hr_25, hr⟩ := bindS hr
          refine r_d rfl rfl rfl (s_callD rfl cl_normal_Same (.cons rfl (Wk.refl _) (.cons rfl (Wk.refl _) .nil)) (lg_normal_Same fuel _ _ _ hr_25)) ?_
          refine r_d rfl rfl rfl (s_not rfl rfl) ?_
          refine r_d rfl rfl rfl (s_pickT rfl rfl rfl) ?_
          refine r_d rfl rfl rfl (s_assign rfl rfl) ?_
          refine r_end ?_
          obtain rfl := Option.some.inj hr
          refine g_ret Try.func6 _ (.cons (resTmp rfl (Wk.refl _)) .nil) ?_
          rfl
         ·
          refine r_skip rfl rfl rfl ?_
          refine r_skip rfl rfl rfl ?_
          refine r_skip rfl rfl rfl ?_
          refine r_skip rfl rfl rfl ?_
          refine r_d rfl rfl rfl (s_pickF rfl rfl rfl) ?_
          refine r_d rfl rfl rfl (s_assign rfl rfl) ?_
          refine r_end ?_
          obtain rfl := Option.some.inj hr
          refine g_ret Try.func6 _ (.cons (resTmp rfl (Wk.refl _)) .nil) ?_
          rfl
        ·
         refine r_skip rfl rfl rfl ?_
         refine r_skip rfl rfl rfl ?_
         refine r_skip rfl rfl rfl ?_
         refine r_skip rfl rfl rfl ?_
         refine r_skip rfl rfl rfl ?_
         refine r_skip rfl rfl rfl ?_
         refine r_d rfl rfl rfl (s_pickF rfl rfl rfl) ?_
         refine r_d rfl rfl rfl (s_move rfl rfl) ?_
         refine r_skip rfl rfl rfl ?_
         refine r_skip rfl rfl rfl ?_
         refine r_skip rfl rfl rfl ?_
         refine r_skip rfl rfl rfl ?_
         refine r_d rfl rfl rfl (s_pickF rfl rfl rfl) ?_
         refine r_d rfl rfl rfl (s_assign rfl rfl) ?_
         refine r_end ?_
         obtain rfl := Option.some.inj hr
         refine g_ret Try.func6 _ (.cons (resTmp rfl (Wk.refl _)) .nil) ?_
         rfl
       ·
        refine r_skip rfl rfl rfl ?_
        refine r_skip rfl rfl rfl ?_
        refine r_skip rfl rfl rfl ?_
        refine r_skip rfl rfl rfl ?_
        refine r_d rfl rfl rfl (s_pickF rfl rfl rfl) ?_
        refine r_d rfl rfl rfl (s_move rfl rfl) ?_
        refine r_skip rfl rfl rfl ?_
        refine r_skip rfl rfl rfl ?_
        refine r_skip rfl rfl rfl ?_
        refine r_skip rfl rfl rfl ?_
        refine r_skip rfl rfl rfl ?_
        refine r_skip rfl rfl rfl ?_
        refine r_d rfl rfl rfl (s_pickF rfl rfl rfl) ?_
        refine r_d rfl rfl rfl (s_move rfl rfl) ?_
        refine r_skip rfl rfl rfl ?_
        refine r_skip rfl rfl rfl ?_
        refine r_skip rfl rfl rfl ?_
        refine r_skip rfl rfl rfl ?_
        refine r_d rfl rfl rfl (s_pickF rfl rfl rfl) ?_
        refine r_d rfl rfl rfl (s_assign rfl rfl) ?_
        refine r_end ?_
        obtain rfl := Option.some.inj hr
        refine g_ret Try.func6 _ (.cons (resTmp rfl (Wk.refl _)) .nil) ?_
        rfl

end Go.Proofs.Ytlannippingfdaa


namespace Go.Proofs.Ytlannippingfdaa
set_option maxRecDepth 100000
open Go.RowKit

def TotP {α : Type} (x : Option α) (Q : α → Prop) : Prop := ∃ a, x = some a ∧ Q a
/-- The occurrences become others, one after the other. -/
def acc {S : Type} (f : Int → S → Int × S) : List Int → S → List Int × S
  | [], s => ([], s)
  | v :: l, s => ((f v s).1 :: (acc f l (f v s).2).1, (acc f l (f v s).2).2)
section
variable {S : Type} {f : Int → S → Int × S}
theorem acc_len : ∀ (l : List Int) (s : S), (acc f l s).1.length = l.length
  | [], _ => rfl
  | v :: l, s => by rw [acc, List.length_cons, acc_len l, List.length_cons]
theorem acc_app : ∀ (l m : List Int) (s : S), acc f (l ++ m) s = ((acc f l s).1 ++ (acc f m (acc f l s).2).1, (acc f m (acc f l s).2).2)
  | [], m, s => rfl
  | v :: l, m, s => by
    rw [List.cons_append, acc, acc, acc_app l m]
    rfl
/-- What is kept: so many occurrences more may come. -/
def Kept (f : Int → S → Int × S) (I : Nat → S → Prop) : Prop := (∀ n v s, I (n + 1) s → I n (f v s).2) ∧ ∀ n s, I (n + 1) s → I n s
theorem Kept.less {I : Nat → S → Prop} (h : Kept f I) {n m : Nat} {s : S} (hI : I n s) (hm : m ≤ n) : I m s := by
  induction n with
  | zero =>
    have : m = 0 := by omega
    rw [this]
    exact hI
  | succ n ih =>
    by_cases e : m = n + 1
    · rw [e]; exact hI
    · exact ih (h.2 n s hI) (by omega)
theorem Kept.acc {I : Nat → S → Prop} (h : Kept f I) : ∀ (l : List Int) (n : Nat) (s : S), I (l.length + n) s → I n (acc f l s).2
  | [], n, s, hI => by simpa [Go.Proofs.Ytlannippingfdaa.acc] using hI
  | v :: l, n, s, hI => by
    rw [Go.Proofs.Ytlannippingfdaa.acc]
    refine Kept.acc h l n _ (h.1 _ v s ?_)
    rw [List.length_cons] at hI
    rwa [show l.length + n + 1 = l.length + 1 + n by omega]
theorem setL_acc (q : T) (ts : List T) (s : S) : setL (q :: ts) (acc f (occL (q :: ts)) s).1 = setT q (acc f (occT q) s).1 :: setL ts (acc f (occL ts) (acc f (occT q) s).2).1 := by
  rw [occL, acc_app, setL]
  have h : (acc f (occT q) s).1.length = (occT q).length := acc_len _ _
  dsimp only
  rw [← h, List.take_left, List.drop_left]
theorem accL2 (q : T) (ts : List T) (s : S) : (acc f (occL (q :: ts)) s).2 = (acc f (occL ts) (acc f (occT q) s).2).2 := by rw [occL, acc_app]
theorem setA_acc (q : At) (ts : List At) (s : S) : setA (q :: ts) (acc f (occA (q :: ts)) s).1 = ⟨q.n, setL q.ts (acc f (occL q.ts) s).1⟩ :: setA ts (acc f (occA ts) (acc f (occL q.ts) s).2).1 := by
  rw [occA, acc_app, setA]
  have h : (acc f (occL q.ts) s).1.length = (occL q.ts).length := acc_len _ _
  dsimp only
  rw [← h, List.take_left, List.drop_left]
theorem accA2 (q : At) (ts : List At) (s : S) : (acc f (occA (q :: ts)) s).2 = (acc f (occA ts) (acc f (occL q.ts) s).2).2 := by rw [occA, acc_app]
theorem setG_acc (q : Gl) (ts : List Gl) (s : S) : setG (q :: ts) (acc f (occG (q :: ts)) s).1 = ⟨q.op, q.n, setL q.ts (acc f (occL q.ts) s).1⟩ :: setG ts (acc f (occG ts) (acc f (occL q.ts) s).2).1 := by
  rw [occG, acc_app, setG]
  have h : (acc f (occL q.ts) s).1.length = (occL q.ts).length := acc_len _ _
  dsimp only
  rw [← h, List.take_left, List.drop_left]
theorem accG2 (q : Gl) (ts : List Gl) (s : S) : (acc f (occG (q :: ts)) s).2 = (acc f (occG ts) (acc f (occL q.ts) s).2).2 := by rw [occG, acc_app]
end
theorem setT_var {q : T} (h : q.k = 1) (l : List Int) : setT q l = .mk q.k (l.headD 0) q.s q.ar := by
  cases q
  simp only [T.k] at h
  subst h
  rw [set_var]
  rfl
theorem setT_fun {q : T} (h : q.k = 2) (l : List Int) : setT q l = .mk q.k q.i q.s (setL q.ar l) := by
  cases q
  simp only [T.k] at h
  subst h
  rw [set_fun]
  rfl
theorem setT_oth {q : T} (h1 : q.k ≠ 1) (h2 : q.k ≠ 2) (l : List Int) : setT q l = .mk q.k q.i q.s q.ar := by
  cases q
  simp only [T.k] at h1 h2
  rw [set_oth h1 h2]
  rfl
theorem beqT {a b : Int} (h : a = b) : (a == b) = true := by simpa using h
theorem beqF {a b : Int} (h : a ≠ b) : (a == b) = false := by simpa using h
/-- How a step on a term goes: by its kind. -/
theorem bif3 {α : Type} {q : T} {x y z : Option α} {r : Option α} (h1 : q.k = 1 → x = r) (h2 : q.k = 2 → y = r) (h3 : q.k ≠ 1 → q.k ≠ 2 → z = r) : (bif (q.k == (1 : Int)) then x else (bif (q.k == (2 : Int)) then y else z)) = r := by
  rcases kind3 q.k with h | h | ⟨ha, hb⟩
  · rw [beqT h, cond_true]; exact h1 h
  · rw [beqF (by omega), cond_false, beqT h, cond_true]; exact h2 h
  · rw [beqF ha, cond_false, beqF hb, cond_false]; exact h3 ha hb
/-! ### weights -/
def wA : List At → Nat
  | [] => 0
  | a :: l => 1 + wtL a.ts + wA l
def wG : List Gl → Nat
  | [] => 0
  | a :: l => 1 + wtL a.ts + wG l
theorem occA_wt : ∀ l : List At, (occA l).length ≤ wA l
  | [] => Nat.le_refl _
  | a :: l => by
    have := occL_wt a.ts
    have := occA_wt l
    rw [occA, List.length_append, wA]
    omega
theorem occG_wt : ∀ l : List Gl, (occG l).length ≤ wG l
  | [] => Nat.le_refl _
  | a :: l => by
    have := occL_wt a.ts
    have := occG_wt l
    rw [occG, List.length_append, wG]
    omega
theorem lenA_wt : ∀ l : List At, l.length ≤ wA l
  | [] => Nat.le_refl _
  | a :: l => by
    have := lenA_wt l
    rw [List.length_cons, wA]
    omega
theorem lenG_wt : ∀ l : List Gl, l.length ≤ wG l
  | [] => Nat.le_refl _
  | a :: l => by
    have := lenG_wt l
    rw [List.length_cons, wG]
    omega
theorem wA_app : ∀ a b : List At, wA (a ++ b) = wA a + wA b
  | [], b => by simp [wA]
  | x :: a, b => by rw [List.cons_append, wA, wA, wA_app a b]; omega
theorem wG_app : ∀ a b : List Gl, wG (a ++ b) = wG a + wG b
  | [], b => by simp [wG]
  | x :: a, b => by rw [List.cons_append, wG, wG, wG_app a b]; omega
theorem appO1 {α : Type} {b : Nat} (hb : b ≤ 100) {l : List α} {x : α} {n : Nat} (h : l.length + (n + 1) ≤ 1000000) : appO b l [x] = some (l ++ [x]) := by
  refine appO_eq ?_ (by simp; omega)
  have : (l.length + [x].length) * b ≤ 1000000 * 100 := Nat.mul_le_mul (by simp; omega) hb
  omega
/-! ### source.Number -/
def fS (v : Int) (m : List (Int × Int)) : Int × List (Int × Int) := match mget m v with
  | some k => (k, m)
  | none => ((m.length : Int), mput m v (m.length : Int))
def iS (n : Nat) (m : List (Int × Int)) : Prop := m.length + n ≤ 1000000
theorem kept_S : Kept fS iS := by
  refine ⟨fun n v m h => ?_, fun n m h => by unfold iS at h ⊢; omega⟩
  unfold iS at h ⊢
  unfold fS
  split
  · show m.length + n ≤ 1000000
    omega
  · have := mput_len m v (m.length : Int)
    show (mput m v _).length + n ≤ 1000000
    omega
theorem one_S {rec : List T → List (Int × Int) → Option (List T × List (Int × Int))} {q : T} {s : List (Int × Int)} (hr : q.k = 2 → rec q.ar s = some (setL q.ar (acc fS (occL q.ar) s).1, (acc fS (occL q.ar) s).2)) (hI : iS (occT q).length s) : lfo_source_numbering_term_s1 rec q s = some (setT q (acc fS (occT q) s).1, (acc fS (occT q) s).2) := by
  unfold lfo_source_numbering_term_s1
  refine bif3 (fun h => ?_) (fun h => ?_) (fun h1 h2 => ?_)
  · rw [setT_var h, occ_k1 h]
    rw [occ_k1 h] at hI
    unfold iS at hI
    rw [acc, acc]
    unfold fS
    cases hg : mget s q.i with
    | none => simp [mputO, show s.length < 9223372036854775807 by simp at hI; omega]
    | some k => simp
  · rw [setT_fun h, occ_k2 h, hr h]
    rfl
  · rw [setT_oth h1 h2, occ_k0 h1 h2]
    rfl
theorem map2_L0 {rec : List T → List (Int × Int) → Option (List T × List (Int × Int))} (k : List T → List (Int × Int) → Option (List T × List (Int × Int))) : ∀ (ts out : List T) (s : List (Int × Int)), (∀ q ∈ ts, ∀ s, iS (occL q.ar).length s → rec q.ar s = some (setL q.ar (acc fS (occL q.ar) s).1, (acc fS (occL q.ar) s).2)) → out.length + ts.length ≤ 1000000 → iS (occL ts).length s →
    lf_source_mapped_s2_L0 k rec ts out s = k (out ++ setL ts (acc fS (occL ts) s).1) (acc fS (occL ts) s).2
  | [], out, s, _, _, _ => by rw [lf_source_mapped_s2_L0, setL, List.append_nil]; rfl
  | q :: ts, out, s, hr, hl, hI => by
    rw [occL, List.length_append] at hI
    rw [List.length_cons] at hl
    rw [lf_source_mapped_s2_L0, one_S (fun h => hr q (List.mem_cons_self ..) s (kept_S.less hI (by rw [occ_k2 h]; omega))) (kept_S.less hI (by omega)), Option.bind_some, appO1 (by omega) hl, Option.bind_some,
      map2_L0 k ts _ _ (fun t ht => hr t (List.mem_cons_of_mem _ ht)) (by rw [List.length_append, List.length_singleton]; omega) (kept_S.acc _ _ _ hI), setL_acc, accL2, List.append_assoc, List.singleton_append]
theorem map2_lf : ∀ (fuel : Nat) (ts : List T) (s : List (Int × Int)), wtL ts < fuel → wtL ts ≤ 1000000 → iS (occL ts).length s → lf_source_mapped_s2 fuel ts s = some (setL ts (acc fS (occL ts) s).1, (acc fS (occL ts) s).2)
  | 0, _, _, h, _, _ => absurd h (Nat.not_lt_zero _)
  | fuel + 1, ts, s, h, hw, hI => by
    have := len_wtL ts
    rw [lf_source_mapped_s2]
    dsimp only
    rw [map2_L0 _ ts [] s (fun q hq s hs => ?_) (by simp; omega) hI]
    · rfl
    · have h1 := wt_mem hq
      have h2 := wt_eq q
      exact map2_lf fuel q.ar s (by omega) (by omega) hs
theorem map1_L0 (k : List At → List (Int × Int) → Option (List At × List (Int × Int))) (fuel : Nat) : ∀ (ts out : List At) (s : List (Int × Int)), wA ts < fuel → wA ts ≤ 1000000 → out.length + ts.length ≤ 1000000 → iS (occA ts).length s →
    lf_source_mapped_s1_L0 k fuel ts out s = k (out ++ setA ts (acc fS (occA ts) s).1) (acc fS (occA ts) s).2
  | [], out, s, _, _, _, _ => by rw [lf_source_mapped_s1_L0, setA, List.append_nil]; rfl
  | q :: ts, out, s, hf, hw, hl, hI => by
    rw [occA, List.length_append] at hI
    rw [List.length_cons] at hl
    rw [wA] at hf hw
    rw [lf_source_mapped_s1_L0, lf_source_numbering_atom_s1, map2_lf fuel q.ts s (by omega) (by omega) (kept_S.less hI (by omega)), Option.bind_some, Option.bind_some, appO1 (by omega) hl, Option.bind_some,
      map1_L0 k fuel ts _ _ (by omega) (by omega) (by rw [List.length_append, List.length_singleton]; omega) (kept_S.acc _ _ _ hI), setA_acc, accA2, List.append_assoc, List.singleton_append]
theorem map1_lf (fuel : Nat) (ts : List At) (s : List (Int × Int)) (hf : wA ts < fuel) (hw : wA ts ≤ 1000000) (hI : iS (occA ts).length s) : lf_source_mapped_s1 fuel ts s = some (setA ts (acc fS (occA ts) s).1, (acc fS (occA ts) s).2) := by
  have := lenA_wt ts
  rw [lf_source_mapped_s1, map1_L0 _ fuel ts [] s hf hw (by simp; omega) hI]
  rfl
theorem map3_L0 (k : List Gl → List (Int × Int) → Option (List Gl × List (Int × Int))) (fuel : Nat) : ∀ (ts out : List Gl) (s : List (Int × Int)), wG ts < fuel → wG ts ≤ 1000000 → out.length + ts.length ≤ 1000000 → iS (occG ts).length s →
    lf_source_mapped_s3_L0 k fuel ts out s = k (out ++ setG ts (acc fS (occG ts) s).1) (acc fS (occG ts) s).2
  | [], out, s, _, _, _, _ => by rw [lf_source_mapped_s3_L0, setG, List.append_nil]; rfl
  | q :: ts, out, s, hf, hw, hl, hI => by
    rw [occG, List.length_append] at hI
    rw [List.length_cons] at hl
    rw [wG] at hf hw
    rw [lf_source_mapped_s3_L0, lf_source_numbering_goal_s1, map2_lf fuel q.ts s (by omega) (by omega) (kept_S.less hI (by omega)), Option.bind_some, Option.bind_some, appO1 (by omega) hl, Option.bind_some,
      map3_L0 k fuel ts _ _ (by omega) (by omega) (by rw [List.length_append, List.length_singleton]; omega) (kept_S.acc _ _ _ hI), setG_acc, accG2, List.append_assoc, List.singleton_append]
theorem map3_lf (fuel : Nat) (ts : List Gl) (s : List (Int × Int)) (hf : wG ts < fuel) (hw : wG ts ≤ 1000000) (hI : iS (occG ts).length s) : lf_source_mapped_s3 fuel ts s = some (setG ts (acc fS (occG ts) s).1, (acc fS (occG ts) s).2) := by
  have := lenG_wt ts
  rw [lf_source_mapped_s3, map3_L0 _ fuel ts [] s hf hw (by simp; omega) hI]
  rfl
/-- The numbers given so far. -/
def mOf (l : List Int) : List (Int × Int) := l.zip (rng l.length)
theorem rng_succ (n : Nat) : rng (n + 1) = rng n ++ [(n : Int)] := by
  unfold rng
  rw [List.range_succ, List.map_append, List.map_singleton]
theorem mOf_snoc (l : List Int) (v : Int) : mOf (l ++ [v]) = mOf l ++ [(v, (l.length : Int))] := by
  unfold mOf
  rw [List.length_append, List.length_singleton, rng_succ, List.zip_append (rng_len _).symm]
  rfl
theorem mOf_len (l : List Int) : (mOf l).length = l.length := by
  unfold mOf
  rw [List.length_zip, rng_len, Nat.min_self]
theorem mget_app {β : Type} : ∀ (l m : List (Int × β)) (v : Int), mget (l ++ m) v = (mget l v).or (mget m v)
  | [], m, v => rfl
  | q :: l, m, v => by
    rw [List.cons_append, mget, mget]
    split
    · rfl
    · exact mget_app l m v
theorem mput_new {β : Type} : ∀ (l : List (Int × β)) (v : Int) (d : β), mget l v = none → mput l v d = l ++ [(v, d)]
  | [], _, _, _ => rfl
  | q :: l, v, d, h => by
    rw [mget] at h
    rw [mput]
    split at h
    · cases h
    · rename_i hq
      rw [if_neg hq, mput_new l v d h, List.cons_append]
theorem plc_snoc {l : List Int} {v x : Int} (h : x ∈ l) : plc (l ++ [v]) x = plc l x := by
  rw [plc_in h, plc_in (List.mem_append_left _ h), List.idxOf_append, if_pos h]
theorem plc_last {l : List Int} {v : Int} (h : v ∉ l) : plc (l ++ [v]) v = (l.length : Int) := by
  rw [plc_in (by simp), List.idxOf_append, if_neg h]
  simp
theorem mget_mOf' (v : Int) : ∀ (n : Nat) (l : List Int), l.length = n → l.Nodup → mget (mOf l) v = if v ∈ l then some (plc l v) else none := by
  intro n
  induction n with
  | zero =>
    intro l hl _
    rw [List.eq_nil_of_length_eq_zero hl]
    rfl
  | succ n ih' =>
    intro l hl hn
    rcases List.eq_nil_or_concat l with rfl | ⟨l, x, rfl⟩
    · cases hl
    rw [List.concat_eq_append] at hl hn ⊢
    have ih := ih' l (by simpa using hl)
    have hn1 : l.Nodup := (List.nodup_append.1 hn).1
    have hx : x ∉ l := fun h => (List.nodup_append.1 hn).2.2 x h x (by simp) rfl
    rw [mOf_snoc, mget_app, ih hn1]
    by_cases hv : v ∈ l
    · rw [if_pos hv, if_pos (List.mem_append_left _ hv), plc_snoc hv]
      rfl
    · rw [if_neg hv]
      by_cases e : x = v
      · subst e
        rw [if_pos (by simp), plc_last hx]
        simp [mget]
      · rw [if_neg (by simp [hv, Ne.symm e])]
        simp [mget, e]
theorem mget_mOf (l : List Int) (v : Int) (h : l.Nodup) : mget (mOf l) v = if v ∈ l then some (plc l v) else none := mget_mOf' v _ l rfl h
theorem fS_mOf {l : List Int} (hn : l.Nodup) (v : Int) : fS v (mOf l) = (plc (addU l v) v, mOf (addU l v)) := by
  unfold fS
  rw [mget_mOf l v hn]
  by_cases h : v ∈ l
  · rw [if_pos h, addU, if_pos h]
  · have hg : mget (mOf l) v = none := by rw [mget_mOf l v hn, if_neg h]
    rw [if_neg h, addU, if_neg h]
    dsimp only
    rw [mput_new _ _ _ hg, mOf_len, mOf_snoc, plc_last h]
theorem addU_nodup {l : List Int} (hn : l.Nodup) (v : Int) : (addU l v).Nodup := by
  have := uniq_nodup [v] l hn
  exact this
theorem plc_addU {l : List Int} {x : Int} (v : Int) (h : x ∈ l) : plc (addU l v) x = plc l x := by
  unfold addU
  split
  · rfl
  · exact plc_snoc h
theorem plc_uniq : ∀ (xs l : List Int) (x : Int), x ∈ l → plc (uniq l xs) x = plc l x
  | [], l, x, h => rfl
  | v :: xs, l, x, h => by
    show plc (uniq (addU l v) xs) x = _
    rw [plc_uniq xs (addU l v) x (mem_addU.2 (.inl h)), plc_addU v h]
theorem acc_S : ∀ (xs l : List Int), l.Nodup → acc fS xs (mOf l) = (xs.map (plc (uniq l xs)), mOf (uniq l xs))
  | [], l, _ => rfl
  | v :: xs, l, hn => by
    rw [acc, fS_mOf hn, acc_S xs (addU l v) (addU_nodup hn v)]
    show (_ :: _, _) = _
    rw [List.map_cons]
    have : plc (uniq l (v :: xs)) v = plc (addU l v) v := plc_uniq xs (addU l v) v (mem_addU.2 (.inr rfl))
    rw [this]
    rfl
/-! ### rules as data -/
def toR (r : S_api_Rule) : Ru := ⟨r.f0_Name, r.f1_Keep, r.f2_Remove, r.f3_Guard, r.f4_Body, r.f5_Vars⟩
def ofR (r : Ru) : S_api_Rule := ⟨r.n, r.K, r.R, r.G, r.B, r.v⟩
theorem toR_ofR (r : Ru) : toR (ofR r) = r := rfl
/-- No part is too large. -/
structure Bd (m : Nat) (r : Ru) : Prop where
  a : wA r.K ≤ m
  b : wA r.R ≤ m
  c : wG r.G ≤ m
  d : wG r.B ≤ m
theorem Bd.occ {m : Nat} {r : Ru} (h : Bd m r) : (occU r).length ≤ 4 * m := by
  have h1 := occA_wt r.K
  have h2 := occA_wt r.R
  have h3 := occG_wt r.G
  have h4 := occG_wt r.B
  have := h.a
  have := h.b
  have := h.c
  have := h.d
  unfold occU occH occB
  simp only [List.length_append]
  omega
theorem setU_eq (r : Ru) (a b c d : List Int) (ha : a.length = (occA r.K).length) (hb : b.length = (occA r.R).length) (hc : c.length = (occG r.G).length) : setU r ((a ++ b) ++ (c ++ d)) = { r with K := setA r.K a, R := setA r.R b, G := setG r.G c, B := setG r.B d } := by
  unfold setU setB setH occH
  dsimp only
  have h1 : (a ++ b).length = (occA r.K ++ occA r.R).length := by rw [List.length_append, List.length_append, ha, hb]
  rw [← h1, List.take_left, List.drop_left, ← ha, List.take_left, List.drop_left, ← hc, List.take_left, List.drop_left]
theorem number_lf (fuel : Nat) (r : S_api_Rule) (hB : Bd 100000 (toR r)) (hf : 100000 < fuel) : lf_source_Number fuel r = some (ofR (Nb (toR r))) := by
  have h1 := hB.a
  have h2 := hB.b
  have h3 := hB.c
  have h4 := hB.d
  have o1 := occA_wt (toR r).K
  have o2 := occA_wt (toR r).R
  have o3 := occG_wt (toR r).G
  have o4 := occG_wt (toR r).B
  simp only [toR] at h1 h2 h3 h4 o1 o2 o3 o4
  have hI : iS (((occA r.f1_Keep).length + ((occA r.f2_Remove).length + ((occG r.f3_Guard).length + (occG r.f4_Body).length)))) ([] : List (Int × Int)) := by
    unfold iS
    simp
    omega
  have hI1 := kept_S.acc _ _ _ hI
  have hI2 := kept_S.acc _ _ _ hI1
  have hI3 := kept_S.acc _ _ _ hI2
  rw [lf_source_Number, map1_lf fuel _ _ (by omega) (by omega) (kept_S.less hI (by omega)), Option.bind_some, map1_lf fuel _ _ (by omega) (by omega) (kept_S.less hI1 (by omega)), Option.bind_some,
    map3_lf fuel _ _ (by omega) (by omega) (kept_S.less hI2 (by omega)), Option.bind_some, map3_lf fuel _ _ (by omega) (by omega) hI3, Option.bind_some]
  have e : acc fS (occU (toR r)) [] = ((occU (toR r)).map (plc (vsU (toR r))), mOf (vsU (toR r))) := acc_S (occU (toR r)) [] List.nodup_nil
  unfold occU occH occB at e
  rw [acc_app, acc_app, acc_app] at e
  dsimp only [toR] at e
  obtain ⟨e1, e2⟩ := Prod.mk.inj e
  unfold Nb
  have hu : (occU (toR r)).map (plc (vsU (toR r))) = ((occA r.f1_Keep ++ occA r.f2_Remove ++ (occG r.f3_Guard ++ occG r.f4_Body)).map (plc (vsU ⟨r.f0_Name, r.f1_Keep, r.f2_Remove, r.f3_Guard, r.f4_Body, r.f5_Vars⟩))) := rfl
  have hs := setU_eq (toR r) (acc fS (occA r.f1_Keep) []).1 (acc fS (occA r.f2_Remove) (acc fS (occA r.f1_Keep) []).2).1 (acc fS (occG r.f3_Guard) (acc fS (occA r.f2_Remove) (acc fS (occA r.f1_Keep) []).2).2).1 (acc fS (occG r.f4_Body) (acc fS (occG r.f3_Guard) (acc fS (occA r.f2_Remove) (acc fS (occA r.f1_Keep) []).2).2).2).1 (acc_len _ _) (acc_len _ _) (acc_len _ _)
  rw [hu, ← e1, hs]
  dsimp only [ofR, wv, toR]
  rw [e2, mOf_len]
end Go.Proofs.Ytlannippingfdaa


namespace Go.Proofs.Ytlannippingfdaa
set_option maxRecDepth 100000
open Go.RowKit

/-! ### the variables of the reference -/
theorem has_L0 (n : Int) : ∀ l : List Int, lf_constraintref03_has_L0 (some false) n l = some (decide (n ∈ l))
  | [] => by rw [lf_constraintref03_has_L0]; rfl
  | x :: l => by
    rw [lf_constraintref03_has_L0, has_L0 n l]
    by_cases h : x = n
    · subst h; simp
    · have h' : n ≠ x := fun e => h e.symm
      rw [beq_false_of_ne h]
      simp [h']
theorem has_lf (l : List Int) (n : Int) : lf_constraintref03_has l n = some (decide (n ∈ l)) := has_L0 n l
theorem refArgs_lf (t : T) : lf_constraintref03_args t = some t.used := by
  rw [lf_constraintref03_args, T.used]
  by_cases h : t.k = 2
  · rw [if_pos h, show (t.k == (2 : Int)) = true by simpa using h]; rfl
  · rw [if_neg h, show (t.k == (2 : Int)) = false by simpa using h]; rfl
theorem vars_L0 {rec : List Int → T → Option (List Int)} (k : List Int → Option (List Int)) : ∀ (ts : List T) (l : List Int) (m : Nat), (∀ t ∈ ts, ∀ l : List Int, l.length + wt t ≤ m → rec l t = some (uniq l (occT t))) → l.length + wtL ts ≤ m → lf_constraintref03_vars_s1_L0 k rec ts l = k (uniq l (occL ts))
  | [], l, m, _, _ => by rw [lf_constraintref03_vars_s1_L0]; simp [occL, uniq_nil]
  | t :: ts, l, m, h, hm => by
    simp only [wtL] at hm
    rw [lf_constraintref03_vars_s1_L0, h t (List.mem_cons_self ..) l (by omega)]
    simp only [Option.bind_some]
    have hl := uniq_len (occT t) l
    have ho := occ_wt t
    rw [vars_L0 k ts _ m (fun u hu => h u (List.mem_cons_of_mem _ hu)) (by omega), ← uniq_app]
    simp [occL]
theorem vars_lf : ∀ (fuel : Nat) (t : T) (l : List Int), wt t < fuel → l.length + wt t ≤ 1000000000 → lf_constraintref03_vars_s1 fuel l t = some (uniq l (occT t))
  | 0, _, _, h, _ => by omega
  | fuel + 1, t, l, h, hm => by
    rw [lf_constraintref03_vars_s1]
    have hwt := wt_eq t
    have key : ∀ l' : List Int, l'.length ≤ l.length + 1 → lf_constraintref03_vars_s1_L0 (fun l_9 => some l_9) (lf_constraintref03_vars_s1 fuel) t.used l' = some (uniq l' (occL t.used)) := fun l' hl' => by
      have hu := wtL_used t
      refine vars_L0 _ t.used l' (l'.length + wtL t.used) (fun u hu' l2 hl2 => vars_lf fuel u l2 ?_ ?_) (Nat.le_refl _)
      · have := wt_used hu'; omega
      · omega
    show lf_constraintref03_vars_s1_J0 _ _ _ = _
    unfold lf_constraintref03_vars_s1_J0
    rw [has_lf]
    simp only [Option.bind_some, refArgs_lf]
    by_cases hk : t.k = 1
    · rw [show (t.k == (1 : Int)) = true by simpa using hk]
      have hused : t.used = [] := by unfold T.used; rw [if_neg (by omega)]
      have hocc := occT_var hk
      simp only [cond_true]
      by_cases hx : t.i ∈ l
      · rw [decide_eq_true hx]
        simp only [Bool.not_true, cond_false]
        rw [key l (by omega), hocc, hused]
        simp [occL, uniq, addU, hx]
      · rw [decide_eq_false hx]
        simp only [Bool.not_false, cond_true]
        rw [appO_eq (by simp; omega) (by simp; omega)]
        simp only [Option.bind_some]
        rw [key _ (by simp), hocc, hused]
        simp [occL, uniq, addU, hx]
    · rw [show (t.k == (1 : Int)) = false by simpa using hk]
      simp only [cond_false]
      rw [key l (by omega), occT_eq hk]
theorem varsOf_L0 (fuel : Nat) (k : List Int → Option (List Int)) : ∀ (ts : List T) (l : List Int), wtL ts < fuel → l.length + wtL ts ≤ 1000000000 → lf_constraintref03_VarsOf_L0 k fuel ts l = k (uniq l (occL ts))
  | [], l, _, _ => by rw [lf_constraintref03_VarsOf_L0]; simp [occL, uniq_nil]
  | t :: ts, l, h, hm => by
    simp only [wtL] at h hm
    rw [lf_constraintref03_VarsOf_L0, vars_lf fuel t l (by omega) (by omega)]
    simp only [Option.bind_some]
    have hl := uniq_len (occT t) l
    have ho := occ_wt t
    rw [varsOf_L0 fuel k ts _ (by omega) (by omega), ← uniq_app]
    simp [occL]

theorem varsOf_lf (fuel : Nat) (ts : List T) (h : wtL ts < fuel) (hm : wtL ts ≤ 1000000000) : lf_constraintref03_VarsOf fuel ts = some (uniq [] (occL ts)) := by
  rw [lf_constraintref03_VarsOf, varsOf_L0 fuel _ ts [] h (by simpa using hm)]
/-! ### all terms -/
def tsA (l : List At) : List T := l.flatMap (·.ts)
def tsG (l : List Gl) : List T := l.flatMap (·.ts)
theorem occ_tsA : ∀ l : List At, occL (tsA l) = occA l
  | [] => rfl
  | a :: l => by
    have := occ_tsA l
    unfold tsA at this ⊢
    rw [List.flatMap_cons, occL_app, this, occA]
theorem occ_tsG : ∀ l : List Gl, occL (tsG l) = occG l
  | [] => rfl
  | a :: l => by
    have := occ_tsG l
    unfold tsG at this ⊢
    rw [List.flatMap_cons, occL_app, this, occG]
theorem wt_tsA : ∀ l : List At, wtL (tsA l) ≤ wA l
  | [] => Nat.le_refl _
  | a :: l => by
    have := wt_tsA l
    unfold tsA at this ⊢
    rw [List.flatMap_cons, wtL_app, wA]
    omega
theorem wt_tsG : ∀ l : List Gl, wtL (tsG l) ≤ wG l
  | [] => Nat.le_refl _
  | a :: l => by
    have := wt_tsG l
    unfold tsG at this ⊢
    rw [List.flatMap_cons, wtL_app, wG]
    omega
theorem appO_le {α : Type} {b : Nat} (hb : b ≤ 100) {l m : List α} (h : l.length + m.length ≤ 1000000) : appO b l m = some (l ++ m) := by
  refine appO_eq ?_ (by omega)
  have : (l.length + m.length) * b ≤ 1000000 * 100 := Nat.mul_le_mul h hb
  omega
theorem terms_L0 (k : List T → Option (List T)) : ∀ (l : List At) (out : List T), out.length + (tsA l).length ≤ 1000000 → lf_constraintref14_Terms_L0 k l out = k (out ++ tsA l)
  | [], out, _ => by rw [lf_constraintref14_Terms_L0]; simp [tsA]
  | a :: l, out, h => by
    have e : tsA (a :: l) = a.ts ++ tsA l := rfl
    rw [e, List.length_append] at h
    rw [lf_constraintref14_Terms_L0, appO_le (by omega) (by omega), Option.bind_some, terms_L0 k l _ (by rw [List.length_append]; omega), e, List.append_assoc]
theorem terms_L1 (k : List T → Option (List T)) : ∀ (l : List At) (out : List T), out.length + (tsA l).length ≤ 1000000 → lf_constraintref14_Terms_L1 k l out = k (out ++ tsA l)
  | [], out, _ => by rw [lf_constraintref14_Terms_L1]; simp [tsA]
  | a :: l, out, h => by
    have e : tsA (a :: l) = a.ts ++ tsA l := rfl
    rw [e, List.length_append] at h
    rw [lf_constraintref14_Terms_L1, appO_le (by omega) (by omega), Option.bind_some, terms_L1 k l _ (by rw [List.length_append]; omega), e, List.append_assoc]
theorem terms_L2 (k : List T → Option (List T)) : ∀ (l : List Gl) (out : List T), out.length + (tsG l).length ≤ 1000000 → lf_constraintref14_Terms_L2 k l out = k (out ++ tsG l)
  | [], out, _ => by rw [lf_constraintref14_Terms_L2]; simp [tsG]
  | a :: l, out, h => by
    have e : tsG (a :: l) = a.ts ++ tsG l := rfl
    rw [e, List.length_append] at h
    rw [lf_constraintref14_Terms_L2, appO_le (by omega) (by omega), Option.bind_some, terms_L2 k l _ (by rw [List.length_append]; omega), e, List.append_assoc]
theorem terms_L3 (k : List T → Option (List T)) : ∀ (l : List Gl) (out : List T), out.length + (tsG l).length ≤ 1000000 → lf_constraintref14_Terms_L3 k l out = k (out ++ tsG l)
  | [], out, _ => by rw [lf_constraintref14_Terms_L3]; simp [tsG]
  | a :: l, out, h => by
    have e : tsG (a :: l) = a.ts ++ tsG l := rfl
    rw [e, List.length_append] at h
    rw [lf_constraintref14_Terms_L3, appO_le (by omega) (by omega), Option.bind_some, terms_L3 k l _ (by rw [List.length_append]; omega), e, List.append_assoc]
def tsU (r : Ru) : List T := tsA r.K ++ tsA r.R ++ tsG r.G ++ tsG r.B
theorem occ_tsU (r : Ru) : occL (tsU r) = occU r := by
  unfold tsU occU occH occB
  rw [occL_app, occL_app, occL_app, occ_tsA, occ_tsA, occ_tsG, occ_tsG]
  simp
theorem terms_lf (r : S_api_Rule) (hB : Bd 100000 (toR r)) : lf_constraintref14_Terms r = some (tsU (toR r)) := by
  have h1 := hB.a
  have h2 := hB.b
  have h3 := hB.c
  have h4 := hB.d
  simp only [toR] at h1 h2 h3 h4
  have o1 := wt_tsA r.f1_Keep
  have o2 := wt_tsA r.f2_Remove
  have o3 := wt_tsG r.f3_Guard
  have o4 := wt_tsG r.f4_Body
  have l1 := len_wtL (tsA r.f1_Keep)
  have l2 := len_wtL (tsA r.f2_Remove)
  have l3 := len_wtL (tsG r.f3_Guard)
  have l4 := len_wtL (tsG r.f4_Body)
  rw [lf_constraintref14_Terms, terms_L0 _ _ _ (by simp; omega), terms_L1 _ _ _ (by simp; omega), terms_L2 _ _ _ (by simp; omega), terms_L3 _ _ _ (by simp; omega), List.nil_append]
  rfl
theorem wt_tsU {m : Nat} {r : Ru} (h : Bd m r) : wtL (tsU r) ≤ 4 * m := by
  have := h.a
  have := h.b
  have := h.c
  have := h.d
  have o1 := wt_tsA r.K
  have o2 := wt_tsA r.R
  have o3 := wt_tsG r.G
  have o4 := wt_tsG r.B
  unfold tsU
  rw [wtL_app, wtL_app, wtL_app]
  omega
/-! ### places -/
theorem place_L0 (n : Int) : ∀ (l : List Int) (i : Nat), lf_constraintref14_place_L0 (some (-1)) n l i = some (if n ∈ l then (((i + l.idxOf n : Nat)) : Int) else -1)
  | [], i => by rw [lf_constraintref14_place_L0]; rfl
  | x :: l, i => by
    rw [lf_constraintref14_place_L0]
    by_cases h : x = n
    · subst h
      rw [beqT rfl, cond_true, if_pos (List.mem_cons_self ..), List.idxOf_cons_self]
      rfl
    · rw [beqF h, cond_false, place_L0 n l (i + 1)]
      have hx : (n ∈ x :: l) ↔ n ∈ l := by
        rw [List.mem_cons]
        exact ⟨fun e => e.resolve_left fun e => h e.symm, .inr⟩
      by_cases hn : n ∈ l
      · rw [if_pos hn, if_pos (hx.2 hn), List.idxOf_cons, beqF h, cond_false]
        congr 2
        omega
      · rw [if_neg hn, if_neg fun e => hn (hx.1 e)]
theorem place_lf (l : List Int) (n : Int) : lf_constraintref14_place l n = some (plc l n) := by
  rw [lf_constraintref14_place, place_L0]
  unfold plc
  simp
theorem numT_k1 (ρ : Int → Int) {q : T} (h : q.k = 1) : numT ρ q = .mk q.k (ρ q.i) q.s q.ar := by
  cases q
  simp only [T.k] at h
  subst h
  rw [numT, if_pos rfl]
  rfl
theorem numT_k2 (ρ : Int → Int) {q : T} (h : q.k = 2) : numT ρ q = .mk q.k q.i q.s (numL ρ q.ar) := by
  cases q
  simp only [T.k] at h
  subst h
  rw [numT, if_neg (by omega), if_pos rfl]
  rfl
theorem numT_k0 (ρ : Int → Int) {q : T} (h1 : q.k ≠ 1) (h2 : q.k ≠ 2) : numT ρ q = .mk q.k q.i q.s q.ar := by
  cases q
  simp only [T.k] at h1 h2
  rw [numT, if_neg h1, if_neg h2]
  rfl
theorem rename_L0 {rec : List Int → List T → Option (List T)} (vars : List Int) (k : List T → Option (List T)) : ∀ (ts out : List T), (∀ q ∈ ts, rec vars q.ar = some (numL (plc vars) q.ar)) → out.length + ts.length ≤ 1000000 → lf_constraintref14_rename_L0 k rec vars ts out = k (out ++ numL (plc vars) ts)
  | [], out, _, _ => by rw [lf_constraintref14_rename_L0, numL, List.append_nil]
  | q :: ts, out, hr, hl => by
    rw [List.length_cons] at hl
    have step : ∀ t : T, t = numT (plc vars) q → ((appO 56 out [t]).bind fun l => lf_constraintref14_rename_L0 k rec vars ts l) = k (out ++ numL (plc vars) (q :: ts)) := fun t ht => by
      rw [appO1 (by omega) hl, Option.bind_some, rename_L0 vars k ts _ (fun u hu => hr u (List.mem_cons_of_mem _ hu)) (by rw [List.length_append, List.length_singleton]; omega), ht, numL, List.append_assoc, List.singleton_append]
    rw [lf_constraintref14_rename_L0]
    refine bif3 (fun h => ?_) (fun h => ?_) (fun h1 h2 => ?_)
    · rw [place_lf, Option.bind_some]
      exact step _ (numT_k1 _ h).symm
    · rw [hr q (List.mem_cons_self ..), Option.bind_some]
      exact step _ (numT_k2 _ h).symm
    · exact step _ (numT_k0 _ h1 h2).symm
theorem rename_lf (vars : List Int) : ∀ (fuel : Nat) (ts : List T), wtL ts < fuel → wtL ts ≤ 1000000 → lf_constraintref14_rename fuel vars ts = some (numL (plc vars) ts)
  | 0, _, h, _ => absurd h (Nat.not_lt_zero _)
  | fuel + 1, ts, h, hw => by
    have := len_wtL ts
    rw [lf_constraintref14_rename]
    dsimp only
    rw [rename_L0 vars _ ts [] (fun q hq => ?_) (by simp; omega)]
    · rfl
    · have h1 := wt_mem hq
      have h2 := wt_eq q
      exact rename_lf vars fuel q.ar (by omega) (by omega)
def numA (ρ : Int → Int) (l : List At) : List At := l.map fun a => ⟨a.n, numL ρ a.ts⟩
def numG (ρ : Int → Int) (l : List Gl) : List Gl := l.map fun a => ⟨a.op, a.n, numL ρ a.ts⟩
theorem numA_set (ρ : Int → Int) : ∀ l : List At, numA ρ l = setA l ((occA l).map ρ)
  | [] => rfl
  | a :: l => by
    have h : ((occL a.ts).map ρ).length = (occL a.ts).length := List.length_map _
    show (⟨a.n, numL ρ a.ts⟩ : At) :: numA ρ l = _
    rw [numA_set ρ l, setA, occA, List.map_append, ← h, List.take_left, List.drop_left, numL_set]
theorem numG_set (ρ : Int → Int) : ∀ l : List Gl, numG ρ l = setG l ((occG l).map ρ)
  | [] => rfl
  | a :: l => by
    have h : ((occL a.ts).map ρ).length = (occL a.ts).length := List.length_map _
    show (⟨a.op, a.n, numL ρ a.ts⟩ : Gl) :: numG ρ l = _
    rw [numG_set ρ l, setG, occG, List.map_append, ← h, List.take_left, List.drop_left, numL_set]
theorem ratoms_L0 (fuel : Nat) (vars : List Int) (k : List At → Option (List At)) : ∀ (ts out : List At), wA ts < fuel → wA ts ≤ 1000000 → out.length + ts.length ≤ 1000000 → lf_constraintref14_atoms_L0 k fuel vars ts out = k (out ++ numA (plc vars) ts)
  | [], out, _, _, _ => by rw [lf_constraintref14_atoms_L0]; simp [numA]
  | q :: ts, out, hf, hw, hl => by
    rw [List.length_cons] at hl
    rw [wA] at hf hw
    rw [lf_constraintref14_atoms_L0, rename_lf vars fuel q.ts (by omega) (by omega), Option.bind_some, appO1 (by omega) hl, Option.bind_some, ratoms_L0 fuel vars k ts _ (by omega) (by omega) (by rw [List.length_append, List.length_singleton]; omega), List.append_assoc]
    rfl
theorem ratoms_lf (fuel : Nat) (vars : List Int) (ts : List At) (hf : wA ts < fuel) (hw : wA ts ≤ 1000000) : lf_constraintref14_atoms fuel vars ts = some (numA (plc vars) ts) := by
  have := lenA_wt ts
  rw [lf_constraintref14_atoms, ratoms_L0 fuel vars _ ts [] hf hw (by simp; omega)]
  rfl
theorem rgoals_L0 (fuel : Nat) (vars : List Int) (k : List Gl → Option (List Gl)) : ∀ (ts out : List Gl), wG ts < fuel → wG ts ≤ 1000000 → out.length + ts.length ≤ 1000000 → lf_constraintref14_RenameGoals_L0 k fuel vars ts out = k (out ++ numG (plc vars) ts)
  | [], out, _, _, _ => by rw [lf_constraintref14_RenameGoals_L0]; simp [numG]
  | q :: ts, out, hf, hw, hl => by
    rw [List.length_cons] at hl
    rw [wG] at hf hw
    rw [lf_constraintref14_RenameGoals_L0, rename_lf vars fuel q.ts (by omega) (by omega), Option.bind_some, appO1 (by omega) hl, Option.bind_some, rgoals_L0 fuel vars k ts _ (by omega) (by omega) (by rw [List.length_append, List.length_singleton]; omega), List.append_assoc]
    rfl
theorem rgoals_lf (fuel : Nat) (vars : List Int) (ts : List Gl) (hf : wG ts < fuel) (hw : wG ts ≤ 1000000) : lf_constraintref14_RenameGoals fuel vars ts = some (numG (plc vars) ts) := by
  have := lenG_wt ts
  rw [lf_constraintref14_RenameGoals, rgoals_L0 fuel vars _ ts [] hf hw (by simp; omega)]
  rfl
theorem setU_map (r : Ru) (ρ : Int → Int) : setU r ((occU r).map ρ) = ⟨r.n, numA ρ r.K, numA ρ r.R, numG ρ r.G, numG ρ r.B, r.v⟩ := by
  have e : (occU r).map ρ = ((occA r.K).map ρ ++ (occA r.R).map ρ) ++ ((occG r.G).map ρ ++ (occG r.B).map ρ) := by
    unfold occU occH occB
    simp only [List.map_append]
  rw [e, setU_eq r _ _ _ _ (List.length_map _) (List.length_map _) (List.length_map _), numA_set, numA_set, numG_set, numG_set]
theorem rnumber_lf (fuel : Nat) (r : S_api_Rule) (hB : Bd 100000 (toR r)) (hf : 400000 < fuel) : lf_constraintref14_Number fuel r = some (ofR (Nb (toR r))) := by
  have h1 := hB.a
  have h2 := hB.b
  have h3 := hB.c
  have h4 := hB.d
  have h5 := wt_tsU hB
  rw [lf_constraintref14_Number, terms_lf r hB, Option.bind_some, varsOf_lf fuel _ (by omega) (by omega), Option.bind_some, occ_tsU]
  simp only [toR] at h1 h2 h3 h4
  rw [ratoms_lf fuel _ _ (by omega) (by omega), Option.bind_some, ratoms_lf fuel _ _ (by omega) (by omega), Option.bind_some, rgoals_lf fuel _ _ (by omega) (by omega), Option.bind_some, rgoals_lf fuel _ _ (by omega) (by omega), Option.bind_some]
  unfold Nb
  rw [setU_map]
  rfl
/-! ### equality -/
theorem TotP.bind {α β : Type} {x : Option α} {R : α → Prop} {f : α → Option β} {Q : β → Prop} (h : TotP x R) (hf : ∀ a, R a → TotP (f a) Q) : TotP (x.bind f) Q := by
  obtain ⟨a, rfl, ha⟩ := h
  exact hf a ha
theorem TotP.mono {α : Type} {x : Option α} {R Q : α → Prop} (h : TotP x R) (hf : ∀ a, R a → Q a) : TotP x Q := by
  obtain ⟨a, e, ha⟩ := h
  exact ⟨a, e, hf a ha⟩
theorem TotP.pure {α : Type} {a : α} {Q : α → Prop} (h : Q a) : TotP (some a) Q := ⟨a, rfl, h⟩
theorem TotP.cond {α : Type} {b : Bool} {x y : Option α} {Q : α → Prop} (h1 : b = true → TotP x Q) (h2 : b = false → TotP y Q) : TotP (bif b then x else y) Q := by
  cases b with
  | true => exact h1 rfl
  | false => exact h2 rfl
/-- A truth value that tells whether p. -/
def Tells (p : Prop) (b : Bool) : Prop := b = true ↔ p
theorem Tells.f {p : Prop} (h : ¬ p) : Tells p false := ⟨fun e => (by cases e), fun e => absurd e h⟩
theorem Tells.t {p : Prop} (h : p) : Tells p true := ⟨fun _ => h, fun _ => rfl⟩
theorem cleanA_len (l : List At) : (cleanA l).length = l.length := by
  induction l with
  | nil => rfl
  | cons a l ih => rw [cleanA, List.length_cons, ih, List.length_cons]
theorem cleanG_len (l : List Gl) : (cleanG l).length = l.length := by
  induction l with
  | nil => rfl
  | cons a l ih => rw [cleanG, List.length_cons, ih, List.length_cons]
theorem x_sameA_tot {a b : At} (h : wtL a.ts ≤ 1000000000) : TotP (x_sameA a b) (Tells (a.n = b.n ∧ cleanL a.ts = cleanL b.ts)) := by
  rw [x_sameA, if_pos h]
  refine .pure ?_
  unfold Tells
  rw [beq_iff_eq, sameA_iff]
theorem x_sameG_tot {a b : Gl} (h : wtL a.ts ≤ 1000000000) : TotP (x_sameG a b) (Tells (a.op = b.op ∧ a.n = b.n ∧ cleanL a.ts = cleanL b.ts)) := by
  rw [x_sameG, if_pos h]
  refine .pure ?_
  unfold Tells
  rw [sameG_iff]
theorem cleanA_cons (a b : At) (l m : List At) : cleanA (a :: l) = cleanA (b :: m) ↔ (a.n = b.n ∧ cleanL a.ts = cleanL b.ts) ∧ cleanA l = cleanA m := by
  rw [cleanA, cleanA]
  constructor
  · intro h
    obtain ⟨h1, h2⟩ := List.cons.inj h
    injection h1 with h1 h3
    exact ⟨⟨h1, h3⟩, h2⟩
  · rintro ⟨⟨h1, h2⟩, h3⟩
    rw [h1, h2, h3]
theorem cleanG_cons (a b : Gl) (l m : List Gl) : cleanG (a :: l) = cleanG (b :: m) ↔ (a.op = b.op ∧ a.n = b.n ∧ cleanL a.ts = cleanL b.ts) ∧ cleanG l = cleanG m := by
  rw [cleanG, cleanG]
  constructor
  · intro h
    obtain ⟨h1, h2⟩ := List.cons.inj h
    injection h1 with h0 h1 h3
    exact ⟨⟨h0, h1, h3⟩, h2⟩
  · rintro ⟨⟨h0, h1, h2⟩, h3⟩
    rw [h0, h1, h2, h3]
theorem drop_at {α : Type} {l : List α} {i : Nat} (h : i < l.length) : ∃ q, l[i]? = some q ∧ l.drop i = q :: l.drop (i + 1) := ⟨l[i], by simp [h], List.drop_eq_getElem_cons h⟩
theorem sameAtoms_L0 (b : List At) : ∀ (xs : List At) (i : Nat), (∀ a ∈ xs, wtL a.ts ≤ 1000000000) → i + xs.length = b.length → TotP (lf_constraintref03_SameAtoms_L0 (some true) b xs i) (Tells (cleanA xs = cleanA (b.drop i)))
  | [], i, _, h => by
    rw [lf_constraintref03_SameAtoms_L0, List.drop_eq_nil_of_le (by simp at h; omega)]
    exact .pure (.t rfl)
  | a :: xs, i, hw, h => by
    rw [List.length_cons] at h
    obtain ⟨q, hq, hd⟩ := drop_at (l := b) (i := i) (by omega)
    rw [lf_constraintref03_SameAtoms_L0, decide_eq_true (by omega), cond_true, getI_nat, hq, Option.bind_some, hd]
    refine .bind (x_sameA_tot (b := q) (hw a (List.mem_cons_self ..))) fun r hr => ?_
    refine .cond (fun e => .pure (.f fun k => ?_)) fun e => ?_
    · have h1 := hr.2 ((cleanA_cons _ _ _ _).1 k).1
      rw [h1] at e
      cases e
    · have h1 := hr.1 (by simpa using e)
      refine (sameAtoms_L0 b xs (i + 1) (fun x hx => hw x (List.mem_cons_of_mem _ hx)) (by omega)).mono fun r2 hr2 => ?_
      unfold Tells at hr2 ⊢
      rw [hr2, cleanA_cons]
      exact ⟨fun k => ⟨h1, k⟩, fun k => k.2⟩
theorem eqAtoms_L0 (b : List At) : ∀ (xs : List At) (i : Nat), (∀ a ∈ xs, wtL a.ts ≤ 1000000000) → i + xs.length = b.length → TotP (lf_slices_EqualFunc_s6_L0 (some true) b xs i) (Tells (cleanA xs = cleanA (b.drop i)))
  | [], i, _, h => by
    rw [lf_slices_EqualFunc_s6_L0, List.drop_eq_nil_of_le (by simp at h; omega)]
    exact .pure (.t rfl)
  | a :: xs, i, hw, h => by
    rw [List.length_cons] at h
    obtain ⟨q, hq, hd⟩ := drop_at (l := b) (i := i) (by omega)
    rw [lf_slices_EqualFunc_s6_L0, getI_nat, hq, Option.bind_some, hd]
    refine .bind (x_sameA_tot (b := q) (hw a (List.mem_cons_self ..))) fun r hr => ?_
    refine .cond (fun e => .pure (.f fun k => ?_)) fun e => ?_
    · have h1 := hr.2 ((cleanA_cons _ _ _ _).1 k).1
      rw [h1] at e
      cases e
    · have h1 := hr.1 (by simpa using e)
      refine (eqAtoms_L0 b xs (i + 1) (fun x hx => hw x (List.mem_cons_of_mem _ hx)) (by omega)).mono fun r2 hr2 => ?_
      unfold Tells at hr2 ⊢
      rw [hr2, cleanA_cons]
      exact ⟨fun k => ⟨h1, k⟩, fun k => k.2⟩
theorem sameAtoms_tot (a b : List At) (hw : ∀ x ∈ a, wtL x.ts ≤ 1000000000) : TotP (lf_constraintref03_SameAtoms a b) (Tells (cleanA a = cleanA b)) := by
  rw [lf_constraintref03_SameAtoms]
  refine .cond (fun e => .pure (.f fun k => ?_)) fun e => ?_
  · have h := congrArg List.length k
    rw [cleanA_len, cleanA_len] at h
    simp [h] at e
  · have h : a.length = b.length := by
      have : (a.length : Int) = (b.length : Int) := by simpa using e
      omega
    have := sameAtoms_L0 b a 0 hw (by omega)
    rwa [List.drop_zero] at this
theorem eqAtoms_tot (a b : List At) (hw : ∀ x ∈ a, wtL x.ts ≤ 1000000000) : TotP (lf_slices_EqualFunc_s6 a b) (Tells (cleanA a = cleanA b)) := by
  rw [lf_slices_EqualFunc_s6]
  refine .cond (fun e => .pure (.f fun k => ?_)) fun e => ?_
  · have h := congrArg List.length k
    rw [cleanA_len, cleanA_len] at h
    simp [h] at e
  · have h : a.length = b.length := by
      have : (a.length : Int) = (b.length : Int) := by simpa using e
      omega
    have := eqAtoms_L0 b a 0 hw (by omega)
    rwa [List.drop_zero] at this
theorem sameGoals_L0 (b : List Gl) : ∀ (xs : List Gl) (i : Nat), (∀ a ∈ xs, wtL a.ts ≤ 1000000000) → i + xs.length = b.length → TotP (lf_constraintref03_SameGoals_L0 (some true) b xs i) (Tells (cleanG xs = cleanG (b.drop i)))
  | [], i, _, h => by
    rw [lf_constraintref03_SameGoals_L0, List.drop_eq_nil_of_le (by simp at h; omega)]
    exact .pure (.t rfl)
  | a :: xs, i, hw, h => by
    rw [List.length_cons] at h
    obtain ⟨q, hq, hd⟩ := drop_at (l := b) (i := i) (by omega)
    rw [lf_constraintref03_SameGoals_L0, decide_eq_true (by omega), cond_true, getI_nat, hq, Option.bind_some, hd]
    refine .bind (x_sameG_tot (b := q) (hw a (List.mem_cons_self ..))) fun r hr => ?_
    refine .cond (fun e => .pure (.f fun k => ?_)) fun e => ?_
    · have h1 := hr.2 ((cleanG_cons _ _ _ _).1 k).1
      rw [h1] at e
      cases e
    · have h1 := hr.1 (by simpa using e)
      refine (sameGoals_L0 b xs (i + 1) (fun x hx => hw x (List.mem_cons_of_mem _ hx)) (by omega)).mono fun r2 hr2 => ?_
      unfold Tells at hr2 ⊢
      rw [hr2, cleanG_cons]
      exact ⟨fun k => ⟨h1, k⟩, fun k => k.2⟩
theorem eqGoals_L0 (b : List Gl) : ∀ (xs : List Gl) (i : Nat), (∀ a ∈ xs, wtL a.ts ≤ 1000000000) → i + xs.length = b.length → TotP (lf_slices_EqualFunc_s7_L0 (some true) b xs i) (Tells (cleanG xs = cleanG (b.drop i)))
  | [], i, _, h => by
    rw [lf_slices_EqualFunc_s7_L0, List.drop_eq_nil_of_le (by simp at h; omega)]
    exact .pure (.t rfl)
  | a :: xs, i, hw, h => by
    rw [List.length_cons] at h
    obtain ⟨q, hq, hd⟩ := drop_at (l := b) (i := i) (by omega)
    rw [lf_slices_EqualFunc_s7_L0, getI_nat, hq, Option.bind_some, hd]
    refine .bind (x_sameG_tot (b := q) (hw a (List.mem_cons_self ..))) fun r hr => ?_
    refine .cond (fun e => .pure (.f fun k => ?_)) fun e => ?_
    · have h1 := hr.2 ((cleanG_cons _ _ _ _).1 k).1
      rw [h1] at e
      cases e
    · have h1 := hr.1 (by simpa using e)
      refine (eqGoals_L0 b xs (i + 1) (fun x hx => hw x (List.mem_cons_of_mem _ hx)) (by omega)).mono fun r2 hr2 => ?_
      unfold Tells at hr2 ⊢
      rw [hr2, cleanG_cons]
      exact ⟨fun k => ⟨h1, k⟩, fun k => k.2⟩
theorem sameGoals_tot (a b : List Gl) (hw : ∀ x ∈ a, wtL x.ts ≤ 1000000000) : TotP (lf_constraintref03_SameGoals a b) (Tells (cleanG a = cleanG b)) := by
  rw [lf_constraintref03_SameGoals]
  refine .cond (fun e => .pure (.f fun k => ?_)) fun e => ?_
  · have h := congrArg List.length k
    rw [cleanG_len, cleanG_len] at h
    simp [h] at e
  · have h : a.length = b.length := by
      have : (a.length : Int) = (b.length : Int) := by simpa using e
      omega
    have := sameGoals_L0 b a 0 hw (by omega)
    rwa [List.drop_zero] at this
theorem eqGoals_tot (a b : List Gl) (hw : ∀ x ∈ a, wtL x.ts ≤ 1000000000) : TotP (lf_slices_EqualFunc_s7 a b) (Tells (cleanG a = cleanG b)) := by
  rw [lf_slices_EqualFunc_s7]
  refine .cond (fun e => .pure (.f fun k => ?_)) fun e => ?_
  · have h := congrArg List.length k
    rw [cleanG_len, cleanG_len] at h
    simp [h] at e
  · have h : a.length = b.length := by
      have : (a.length : Int) = (b.length : Int) := by simpa using e
      omega
    have := eqGoals_L0 b a 0 hw (by omega)
    rwa [List.drop_zero] at this
theorem wA_mem {x : At} : ∀ {l : List At}, x ∈ l → wtL x.ts ≤ wA l
  | a :: l, h => by
    rw [wA]
    rcases List.mem_cons.1 h with rfl | h
    · omega
    · have := wA_mem h
      omega
theorem wG_mem {x : Gl} : ∀ {l : List Gl}, x ∈ l → wtL x.ts ≤ wG l
  | a :: l, h => by
    rw [wG]
    rcases List.mem_cons.1 h with rfl | h
    · omega
    · have := wG_mem h
      omega
theorem sm_iff (a b : Ru) : Sm a b ↔ a.n = b.n ∧ cleanA a.K = cleanA b.K ∧ cleanA a.R = cleanA b.R ∧ cleanG a.G = cleanG b.G ∧ cleanG a.B = cleanG b.B ∧ a.v = b.v := by
  unfold Sm cleanU
  constructor
  · intro h
    injection h with h1 h2 h3 h4 h5 h6
    exact ⟨h1, h2, h3, h4, h5, h6⟩
  · rintro ⟨h1, h2, h3, h4, h5, h6⟩
    rw [h1, h2, h3, h4, h5, h6]
theorem sameAtoms_tot2 (a b : List At) (hw : ∀ x ∈ a, wtL x.ts ≤ 1000000000) : TotP (lf_constraintref03_SameAtoms a b) (Tells (cleanA a = cleanA b)) := sameAtoms_tot a b hw
theorem sameGoals_tot2 (a b : List Gl) (hw : ∀ x ∈ a, wtL x.ts ≤ 1000000000) : TotP (lf_constraintref03_SameGoals a b) (Tells (cleanG a = cleanG b)) := sameGoals_tot a b hw
theorem eqAtoms_tot2 (a b : List At) (hw : ∀ x ∈ a, wtL x.ts ≤ 1000000000) : TotP (lf_normal_sameAtoms a b) (Tells (cleanA a = cleanA b)) := by
  rw [lf_normal_sameAtoms]
  exact .bind (eqAtoms_tot a b hw) fun r h => .pure h
theorem eqGoals_tot2 (a b : List Gl) (hw : ∀ x ∈ a, wtL x.ts ≤ 1000000000) : TotP (lf_normal_sameGoals a b) (Tells (cleanG a = cleanG b)) := by
  rw [lf_normal_sameGoals]
  exact .bind (eqGoals_tot a b hw) fun r h => .pure h
theorem sameRule_tot (a b : S_api_Rule) (hB : Bd 100000 (toR a)) : TotP (lf_constraintref14_SameRule a b) (Tells (Sm (toR a) (toR b))) := by
  have hA : ∀ (l : List At), wA l ≤ 100000 → ∀ x ∈ l, wtL x.ts ≤ 1000000000 := fun l hl x hx => by
    have := wA_mem hx
    omega
  have hG : ∀ (l : List Gl), wG l ≤ 100000 → ∀ x ∈ l, wtL x.ts ≤ 1000000000 := fun l hl x hx => by
    have := wG_mem hx
    omega
  rw [lf_constraintref14_SameRule]
  refine .cond (fun e1 => ?_) fun e => .pure (.f fun k => ?_)
  rotate_left
  · rw [beq_eq_false_iff_ne] at e
    exact e (congrArg ByteArray.toList ((sm_iff _ _).1 k).1)
  have e1 : a.f0_Name = b.f0_Name := str_ext (by simpa using e1)
  refine .cond (fun e2 => ?_) fun e => .pure (.f fun k => ?_)
  rotate_left
  · rw [beq_eq_false_iff_ne] at e
    exact e ((sm_iff _ _).1 k).2.2.2.2.2
  have e2 : a.f5_Vars = b.f5_Vars := by simpa using e2
  refine .bind (sameAtoms_tot2 _ _ (hA _ hB.a)) fun r3 h3 => .cond (fun t3 => ?_) fun e => .pure (.f fun k => ?_)
  rotate_left
  · rw [h3.2 ((sm_iff _ _).1 k).2.1] at e
    cases e
  refine .bind (sameAtoms_tot2 _ _ (hA _ hB.b)) fun r4 h4 => .cond (fun t4 => ?_) fun e => .pure (.f fun k => ?_)
  rotate_left
  · rw [h4.2 ((sm_iff _ _).1 k).2.2.1] at e
    cases e
  refine .bind (sameGoals_tot2 _ _ (hG _ hB.c)) fun r5 h5 => .cond (fun t5 => ?_) fun e => .pure (.f fun k => ?_)
  rotate_left
  · rw [h5.2 ((sm_iff _ _).1 k).2.2.2.1] at e
    cases e
  refine .bind (sameGoals_tot2 _ _ (hG _ hB.d)) fun r6 h6 => .pure ?_
  unfold Tells
  rw [sm_iff]
  unfold Tells at h6
  rw [h6]
  exact ⟨fun k => ⟨e1, h3.1 t3, h4.1 t4, h5.1 t5, k, e2⟩, fun k => k.2.2.2.2.1⟩
theorem same_tot (a b : S_api_Rule) (hB : Bd 100000 (toR a)) : TotP (lf_normal_same a b) (Tells (Sm (toR a) (toR b))) := by
  have hA : ∀ (l : List At), wA l ≤ 100000 → ∀ x ∈ l, wtL x.ts ≤ 1000000000 := fun l hl x hx => by
    have := wA_mem hx
    omega
  have hG : ∀ (l : List Gl), wG l ≤ 100000 → ∀ x ∈ l, wtL x.ts ≤ 1000000000 := fun l hl x hx => by
    have := wG_mem hx
    omega
  rw [lf_normal_same]
  refine .cond (fun e1 => ?_) fun e => .pure (.f fun k => ?_)
  rotate_left
  · rw [beq_eq_false_iff_ne] at e
    exact e (congrArg ByteArray.toList ((sm_iff _ _).1 k).1)
  have e1 : a.f0_Name = b.f0_Name := str_ext (by simpa using e1)
  refine .cond (fun e2 => ?_) fun e => .pure (.f fun k => ?_)
  rotate_left
  · rw [beq_eq_false_iff_ne] at e
    exact e ((sm_iff _ _).1 k).2.2.2.2.2
  have e2 : a.f5_Vars = b.f5_Vars := by simpa using e2
  refine .bind (eqAtoms_tot2 _ _ (hA _ hB.a)) fun r3 h3 => .cond (fun t3 => ?_) fun e => .pure (.f fun k => ?_)
  rotate_left
  · rw [h3.2 ((sm_iff _ _).1 k).2.1] at e
    cases e
  refine .bind (eqAtoms_tot2 _ _ (hA _ hB.b)) fun r4 h4 => .cond (fun t4 => ?_) fun e => .pure (.f fun k => ?_)
  rotate_left
  · rw [h4.2 ((sm_iff _ _).1 k).2.2.1] at e
    cases e
  refine .bind (eqGoals_tot2 _ _ (hG _ hB.c)) fun r5 h5 => .cond (fun t5 => ?_) fun e => .pure (.f fun k => ?_)
  rotate_left
  · rw [h5.2 ((sm_iff _ _).1 k).2.2.2.1] at e
    cases e
  refine .bind (eqGoals_tot2 _ _ (hG _ hB.d)) fun r6 h6 => .pure ?_
  unfold Tells
  rw [sm_iff]
  unfold Tells at h6
  rw [h6]
  exact ⟨fun k => ⟨e1, h3.1 t3, h4.1 t4, h5.1 t5, k, e2⟩, fun k => k.2.2.2.2.1⟩
end Go.Proofs.Ytlannippingfdaa


namespace Go.Proofs.Ytlannippingfdaa
set_option maxRecDepth 100000
open Go.RowKit

/-- The test that two variables are one. -/
def tst (p : Int × Int) : Gl := ⟨5, ⟨#[]⟩, [.mk 1 p.1 ⟨#[]⟩ [], .mk 1 p.2 ⟨#[]⟩ []]⟩
abbrev SL := List (Int × Bool) × List Gl × Int
def fL (v : Int) (s : SL) : Int × SL := if (mget s.1 v).getD false = true then (s.2.2, (s.1, s.2.1 ++ [tst (s.2.2, v)], s.2.2 + 1)) else (v, (mput s.1 v true, s.2.1, s.2.2))
def iL (n : Nat) (s : SL) : Prop := s.1.length + n ≤ 1000000 ∧ s.2.1.length + n ≤ 1000000 ∧ -1000000000 ≤ s.2.2 ∧ s.2.2 + n ≤ 1000000000
theorem kept_L : Kept fL iL := by
  refine ⟨fun n v s h => ?_, fun n s h => by unfold iL at h ⊢; omega⟩
  unfold iL at h ⊢
  unfold fL
  obtain ⟨h1, h2, h3, h4⟩ := h
  split
  · dsimp only
    rw [List.length_append, List.length_singleton]
    omega
  · have := mput_len s.1 v true
    dsimp only
    omega
theorem step_L {v : Int} {s : SL} (h : iL 1 s) : lf_normal_Linear_1_s1 v s.1 s.2.1 s.2.2 = some (fL v s) := by
  obtain ⟨h1, h2, h3, h4⟩ := h
  rw [lf_normal_Linear_1_s1]
  unfold fL
  cases hg : (mget s.1 v).getD false with
  | true =>
    rw [if_pos rfl, Bool.not_true, cond_false, lf_term_Var, lf_term_Var, Option.bind_some, Option.bind_some, appO1 (by omega) (by omega), Option.bind_some, wr_eq (n := s.2.2 + 1) (by omega), show s.2.2 + 1 - 1 = s.2.2 by omega, wr_eq (by omega)]
    rfl
  | false =>
    rw [if_neg (by simp), Bool.not_false, cond_true]
    unfold mputO
    rw [if_pos (by omega), Option.bind_some]
theorem getI_mid {α : Type} {done ts : List α} {q : α} : getI (done ++ q :: ts) (done.length : Int) = some q := by
  rw [getI_nat]
  simp
theorem set_mid {α : Type} {done ts : List α} {q x : α} : (done ++ q :: ts).set (done.length : Int).toNat x = (done ++ [x]) ++ ts := by
  rw [Int.toNat_natCast, List.set_append_right _ _ (Nat.le_refl _)]
  simp
theorem ren1_L0 {rec : List T → List (Int × Bool) → List Gl → Int → Option (List T × List (Int × Bool) × List Gl × Int)} (k : List T → List (Int × Bool) → List Gl → Int → Option (List T × List (Int × Bool) × List Gl × Int)) :
    ∀ (ts done : List T) (s : SL), (∀ q ∈ ts, ∀ s, iL (occL q.ar).length s → rec q.ar s.1 s.2.1 s.2.2 = some (setL q.ar (acc fL (occL q.ar) s).1, (acc fL (occL q.ar) s).2)) → iL (occL ts).length s →
    lf_normal_renamed_s1_L0 k rec ts.length (done.length : Int) s.1 s.2.1 s.2.2 (done ++ ts) = k (done ++ setL ts (acc fL (occL ts) s).1) (acc fL (occL ts) s).2.1 (acc fL (occL ts) s).2.2.1 (acc fL (occL ts) s).2.2.2
  | [], done, s, _, _ => by rw [List.length_nil, lf_normal_renamed_s1_L0, setL]; rfl
  | q :: ts, done, s, hr, hI => by
    rw [occL, List.length_append] at hI
    have step : ∀ (x : T) (s' : SL), x = setT q (acc fL (occT q) s).1 → s' = (acc fL (occT q) s).2 → lf_normal_renamed_s1_L0 k rec ts.length ((done.length : Int) + 1) s'.1 s'.2.1 s'.2.2 ((done ++ q :: ts).set (done.length : Int).toNat x) = k (done ++ setL (q :: ts) (acc fL (occL (q :: ts)) s).1) (acc fL (occL (q :: ts)) s).2.1 (acc fL (occL (q :: ts)) s).2.2.1 (acc fL (occL (q :: ts)) s).2.2.2 := fun x s' hx hs => by
      rw [set_mid, show ((done.length : Int) + 1) = ((done ++ [x]).length : Int) by simp, ren1_L0 k ts (done ++ [x]) s' (fun t ht => hr t (List.mem_cons_of_mem _ ht)) (by rw [hs]; exact kept_L.acc _ _ _ hI), setL_acc, accL2, hx, hs, List.append_assoc, List.singleton_append]
    rw [List.length_cons, lf_normal_renamed_s1_L0, getI_mid, Option.bind_some]
    refine bif3 (fun h => ?_) (fun h => ?_) (fun h1 h2 => ?_)
    · rw [step_L (kept_L.less hI (by rw [occ_k1 h]; simp)), Option.bind_some]
      refine step _ (fL q.i s).2 ?_ ?_
      · rw [setT_var h, occ_k1 h]; rfl
      · rw [occ_k1 h]; rfl
    · rw [hr q (List.mem_cons_self ..) s (kept_L.less hI (by rw [occ_k2 h]; omega)), Option.bind_some]
      refine step _ (acc fL (occL q.ar) s).2 ?_ ?_
      · rw [setT_fun h, occ_k2 h]
      · rw [occ_k2 h]
    · have e : (done ++ q :: ts) = (done ++ q :: ts).set (done.length : Int).toNat q := by rw [set_mid]; simp
      rw [e]
      refine step _ s ?_ ?_
      · rw [setT_oth h1 h2]; cases q; rfl
      · rw [occ_k0 h1 h2]; rfl
theorem ren1_lf : ∀ (fuel : Nat) (ts : List T) (s : SL), wtL ts < fuel → wtL ts ≤ 1000000 → iL (occL ts).length s → lf_normal_renamed_s1 fuel ts s.1 s.2.1 s.2.2 = some (setL ts (acc fL (occL ts) s).1, (acc fL (occL ts) s).2)
  | 0, _, _, h, _, _ => absurd h (Nat.not_lt_zero _)
  | fuel + 1, ts, s, h, hw, hI => by
    have := len_wtL ts
    rw [lf_normal_renamed_s1]
    dsimp only
    rw [appO_le (by omega) (by simp; omega), Option.bind_some, List.nil_append, show ((ts.length : Int) - 0).toNat = ts.length by omega]
    have := ren1_L0 (rec := lf_normal_renamed_s1 fuel) (fun a_9 mm_10 l_12 l_13 => some (a_9, mm_10, l_12, l_13)) ts [] s (fun q hq s hs => by
      have h1 := wt_mem hq
      have h2 := wt_eq q
      exact ren1_lf fuel q.ar s (by omega) (by omega) hs) hI
    exact this
theorem heads1_L0 (fuel : Nat) (k : List At → List (Int × Bool) → List Gl → Int → Option (List At × List (Int × Bool) × List Gl × Int)) :
    ∀ (ts done : List At) (s : SL), wA ts < fuel → wA ts ≤ 1000000 → iL (occA ts).length s →
    lf_normal_heads_s1_L0 k fuel ts.length (done.length : Int) s.1 s.2.1 s.2.2 (done ++ ts) = k (done ++ setA ts (acc fL (occA ts) s).1) (acc fL (occA ts) s).2.1 (acc fL (occA ts) s).2.2.1 (acc fL (occA ts) s).2.2.2
  | [], done, s, _, _, _ => by rw [List.length_nil, lf_normal_heads_s1_L0, setA]; rfl
  | q :: ts, done, s, hf, hw, hI => by
    rw [occA, List.length_append] at hI
    rw [wA] at hf hw
    rw [List.length_cons, lf_normal_heads_s1_L0, getI_mid, Option.bind_some, ren1_lf fuel q.ts s (by omega) (by omega) (kept_L.less hI (by omega)), Option.bind_some, set_mid]
    have := heads1_L0 fuel k ts (done ++ [⟨q.n, setL q.ts (acc fL (occL q.ts) s).1⟩]) (acc fL (occL q.ts) s).2 (by omega) (by omega) (kept_L.acc _ _ _ hI)
    rw [List.length_append, List.length_singleton, Int.natCast_add] at this
    rw [setA_acc, accA2]
    rw [List.append_assoc, List.singleton_append] at this
    rw [List.append_assoc, List.singleton_append]
    rw [List.append_assoc, List.singleton_append] at this
    exact this
theorem heads1_lf (fuel : Nat) (ts : List At) (s : SL) (hf : wA ts < fuel) (hw : wA ts ≤ 1000000) (hI : iL (occA ts).length s) : lf_normal_heads_s1 fuel ts s.1 s.2.1 s.2.2 = some (setA ts (acc fL (occA ts) s).1, (acc fL (occA ts) s).2) := by
  have := lenA_wt ts
  rw [lf_normal_heads_s1, appO_le (by omega) (by simp; omega), Option.bind_some, List.nil_append, show ((ts.length : Int) - 0).toNat = ts.length by omega]
  exact heads1_L0 fuel (fun a_9 mm_10 l_12 l_13 => some (a_9, mm_10, l_12, l_13)) ts [] s hf hw hI
/-- The variables seen. -/
def sOf (l : List Int) : List (Int × Bool) := l.map fun v => (v, true)
theorem mget_sOf (v : Int) : ∀ l : List Int, mget (sOf l) v = if v ∈ l then some true else none
  | [] => rfl
  | x :: l => by
    have := mget_sOf v l
    unfold sOf at this ⊢
    rw [List.map_cons, mget]
    by_cases h : x = v
    · subst h
      simp
    · rw [if_neg (by exact h), this]
      have hx : (v ∈ x :: l) ↔ v ∈ l := by
        rw [List.mem_cons]
        exact ⟨fun e => e.resolve_left fun e => h e.symm, .inr⟩
      by_cases hv : v ∈ l
      · rw [if_pos hv, if_pos (hx.2 hv)]
      · rw [if_neg hv, if_neg fun e => hv (hx.1 e)]
theorem acc_L : ∀ (l s : List Int) (g : List Gl) (n : Int), acc fL l (sOf s, g, n) = ((linO s n l).1, (sOf (uniq s l), g ++ (linO s n l).2.map tst, n + (linO s n l).2.length))
  | [], s, g, n => by
    rw [acc, linO, uniq_nil]
    simp
  | v :: l, s, g, n => by
    rw [acc]
    unfold fL
    dsimp only
    rw [mget_sOf]
    by_cases h : v ∈ s
    · rw [if_pos h, if_pos (by rfl)]
      dsimp only
      have hu : uniq s (v :: l) = uniq s l := by
        show uniq (addU s v) l = _
        rw [addU, if_pos h]
      rw [show acc (fun v (s : SL) => if (mget s.1 v).getD false = true then (s.2.2, (s.1, s.2.1 ++ [tst (s.2.2, v)], s.2.2 + 1)) else (v, (mput s.1 v true, s.2.1, s.2.2))) l = acc fL l from rfl, acc_L l s, lin_in h, hu]
      simp
      omega
    · rw [if_neg h, if_neg (by simp)]
      dsimp only
      have hm : mput (sOf s) v true = sOf (s ++ [v]) := by
        rw [mput_new _ _ _ (by rw [mget_sOf, if_neg h])]
        unfold sOf
        rw [List.map_append]
        rfl
      have hu : uniq s (v :: l) = uniq (s ++ [v]) l := by
        show uniq (addU s v) l = _
        rw [addU, if_neg h]
      rw [show acc (fun v (s : SL) => if (mget s.1 v).getD false = true then (s.2.2, (s.1, s.2.1 ++ [tst (s.2.2, v)], s.2.2 + 1)) else (v, (mput s.1 v true, s.2.1, s.2.2))) l = acc fL l from rfl, hm, acc_L l (s ++ [v]), lin_out h, hu]
/-- The form before it is numbered. -/
def preL (r : Ru) : Ru := { setH r (linO [] r.v (occH r)).1 with G := (linO [] r.v (occH r)).2.map tst ++ r.G }
theorem setH_eq (r : Ru) (a b : List Int) (ha : a.length = (occA r.K).length) : setH r (a ++ b) = { r with K := setA r.K a, R := setA r.R b } := by
  unfold setH
  rw [← ha, List.take_left, List.drop_left]
theorem concat_lf (a b : List Gl) (ha : a.length ≤ 1000000) (hb : b.length ≤ 1000000) (h : a.length + b.length ≤ 1000000) : lf_slices_Concat_api_Goal_api_Goal [a, b] = some (a ++ b) := by
  rw [lf_slices_Concat_api_Goal_api_Goal, lf_slices_Concat_api_Goal_api_Goal_L0, wr_eq (by omega), decide_eq_false (by omega), cond_false, lf_slices_Concat_api_Goal_api_Goal_L0, wr_eq (by omega), decide_eq_false (by omega), cond_false, lf_slices_Concat_api_Goal_api_Goal_L0]
  unfold x_grow
  rw [if_pos (by omega), Option.bind_some, lf_slices_Concat_api_Goal_api_Goal_L1, appO_le (by omega) (by simp; omega), Option.bind_some, lf_slices_Concat_api_Goal_api_Goal_L1, appO_le (by omega) (by simp; omega), Option.bind_some, lf_slices_Concat_api_Goal_api_Goal_L1]
  simp
end Go.Proofs.Ytlannippingfdaa


namespace Go.Proofs.Ytlannippingfdaa
set_option maxRecDepth 100000
open Go.RowKit

/-! ### weights stay -/
mutual
theorem wt_set : ∀ (t : T) (l : List Int), wt (setT t l) = wt t
  | .mk k i s ar, l => by
    rcases kind3 k with rfl | rfl | ⟨h1, h2⟩
    · rw [set_var, wt, wt]
    · rw [set_fun, wt, wt, wtL_set ar l]
    · rw [set_oth h1 h2]
theorem wtL_set : ∀ (ts : List T) (l : List Int), wtL (setL ts l) = wtL ts
  | [], _ => rfl
  | t :: ts, l => by rw [setL, wtL, wtL, wt_set t, wtL_set ts]
end
theorem wA_set : ∀ (xs : List At) (l : List Int), wA (setA xs l) = wA xs
  | [], _ => rfl
  | a :: xs, l => by rw [setA, wA, wA, wtL_set, wA_set xs]
theorem wG_set : ∀ (xs : List Gl) (l : List Int), wG (setG xs l) = wG xs
  | [], _ => rfl
  | a :: xs, l => by rw [setG, wG, wG, wtL_set, wG_set xs]
theorem setA_len (xs : List At) (l : List Int) : (setA xs l).length = xs.length := by
  induction xs generalizing l with
  | nil => rfl
  | cons a xs ih => rw [setA, List.length_cons, ih, List.length_cons]
theorem Bd.mono {m n : Nat} {r : Ru} (h : Bd m r) (hm : m ≤ n) : Bd n r := ⟨Nat.le_trans h.a hm, Nat.le_trans h.b hm, Nat.le_trans h.c hm, Nat.le_trans h.d hm⟩
theorem Bd.setU {m : Nat} {r : Ru} (h : Bd m r) (l : List Int) : Bd m (setU r l) := by
  unfold Go.Proofs.Ytlannippingfdaa.setU setB setH
  exact ⟨by rw [wA_set]; exact h.a, by rw [wA_set]; exact h.b, by rw [wG_set]; exact h.c, by rw [wG_set]; exact h.d⟩
theorem Bd.nb {m : Nat} {r : Ru} (h : Bd m r) : Bd m (Nb r) := by
  have := h.setU ((occU r).map (plc (vsU r)))
  exact ⟨this.a, this.b, this.c, this.d⟩
theorem wG_tst : ∀ l : List (Int × Int), wG (l.map tst) = 3 * l.length
  | [] => rfl
  | p :: l => by
    rw [List.map_cons, wG, wG_tst l, List.length_cons]
    simp [tst, wtL, wt]
    omega
theorem occH_le {m : Nat} {r : Ru} (h : Bd m r) : (occH r).length ≤ 2 * m := by
  have h1 := occA_wt r.K
  have h2 := occA_wt r.R
  have := h.a
  have := h.b
  unfold occH
  rw [List.length_append]
  omega
theorem lin_le (l s : List Int) (n : Int) : (linO s n l).2.length ≤ l.length := by
  have h := lin_more l s n
  have : s.length ≤ (uniq s l).length := by
    have key : ∀ (xs l : List Int), l.length ≤ (uniq l xs).length := by
      intro xs
      induction xs with
      | nil => intro l; exact Nat.le_refl _
      | cons x xs ih =>
        intro l
        refine Nat.le_trans ?_ (ih (addU l x))
        unfold addU
        split
        · exact Nat.le_refl _
        · simp
    exact key l s
  omega
theorem Bd.pre {m : Nat} {r : Ru} (h : Bd m r) : Bd (7 * m) (preL r) := by
  have h1 := h.a
  have h2 := h.b
  have h3 := h.c
  have h4 := h.d
  have ho := occH_le h
  have hl := lin_le (occH r) [] r.v
  unfold preL setH
  refine ⟨?_, ?_, ?_, ?_⟩ <;> dsimp only
  · rw [wA_set]; omega
  · rw [wA_set]; omega
  · rw [wG_app, wG_tst]; omega
  · omega
/-! ### numbered -/
theorem Sm.symm {a b : Ru} (h : Sm a b) : Sm b a := Eq.symm h
theorem Sm.rfl' (a : Ru) : Sm a a := rfl
theorem Sm.trans {a b c : Ru} (h : Sm a b) (k : Sm b c) : Sm a c := Eq.trans h k
theorem numbered_tot (fuel : Nat) (r : S_api_Rule) (hB : Bd 100000 (toR r)) (hf : 100000 < fuel) : TotP (lf_normal_numbered fuel r) (Tells (IsNb (toR r))) := by
  rw [lf_normal_numbered, number_lf fuel r hB hf, Option.bind_some]
  refine .bind (same_tot r _ hB) fun b hb => .pure ?_
  unfold Tells at hb ⊢
  rw [hb]
  exact ⟨fun h => h.symm, fun h => h.symm⟩
theorem IsNb.vle {m : Nat} {r : Ru} (h : IsNb r) (hB : Bd m r) : 0 ≤ r.v ∧ r.v ≤ 4 * m := by
  have h1 := h.v
  have h2 := uniq_len (occU r) []
  have h3 := hB.occ
  have e : vsU r = uniq [] (occU r) := rfl
  rw [← e] at h2
  simp at h2
  omega
theorem IsNb.lt {r : Ru} (h : IsNb r) {x : Int} (hx : x ∈ occU r) : 0 ≤ x ∧ x < r.v := by
  have h1 := mem_vsU.2 hx
  rw [h.vs] at h1
  have h2 := mem_rng.1 h1
  rw [h.v]
  exact h2
theorem occH_sub {r : Ru} {x : Int} (h : x ∈ occH r) : x ∈ occU r := List.mem_append.2 (.inl h)
theorem occB_sub {r : Ru} {x : Int} (h : x ∈ occB r) : x ∈ occU r := List.mem_append.2 (.inr h)
/-! ### the program's linear form -/
open Classical in
/-- The linear form. -/
noncomputable def linR (r : Ru) : Ru := if IsNb r ∧ (preL r).G.length ≤ 12 then Nb (preL r) else r
theorem linear_lf (fuel : Nat) (r : S_api_Rule) (hB : Bd 1000 (toR r)) (hf : 100000 < fuel) : lf_normal_Linear fuel r = some (ofR (linR (toR r))) := by
  obtain ⟨b, e, hb⟩ := numbered_tot fuel r (hB.mono (by omega)) hf
  rw [lf_normal_Linear, e, Option.bind_some]
  unfold linR
  cases b with
  | false =>
    rw [Bool.not_false, cond_true, if_neg (fun h => by have := hb.2 h.1; cases this)]
    rfl
  | true =>
    have hN := hb.1 rfl
    have hv := hN.vle hB
    have h1 := hB.a
    have h2 := hB.b
    have h3 := hB.c
    simp only [toR] at h1 h2 h3 hv
    have o1 := occA_wt r.f1_Keep
    have o2 := occA_wt r.f2_Remove
    have hI : iL ((occA r.f1_Keep).length + (occA r.f2_Remove).length) ((([] : List (Int × Bool)), ([] : List Gl), r.f5_Vars) : SL) := by
      unfold iL
      simp
      omega
    have hI1 := kept_L.acc _ _ _ hI
    have q1 := heads1_lf fuel r.f1_Keep ([], [], r.f5_Vars) (by omega) (by omega) (kept_L.less hI (by omega))
    have q2 := heads1_lf fuel r.f2_Remove (acc fL (occA r.f1_Keep) ([], [], r.f5_Vars)).2 (by omega) (by omega) hI1
    dsimp only at q1
    rw [Bool.not_true, cond_false, q1, Option.bind_some]
    dsimp only
    rw [q2, Option.bind_some]
    have ea : acc fL (occH (toR r)) ([], [], r.f5_Vars) = ((linO [] r.f5_Vars (occH (toR r))).1, (sOf (uniq [] (occH (toR r))), (linO [] r.f5_Vars (occH (toR r))).2.map tst, r.f5_Vars + (linO [] r.f5_Vars (occH (toR r))).2.length)) := acc_L (occH (toR r)) [] [] r.f5_Vars
    unfold occH at ea
    rw [acc_app] at ea
    dsimp only [toR] at ea
    obtain ⟨e1, e2⟩ := Prod.mk.inj ea
    have ep : preL (toR r) = ⟨r.f0_Name, setA r.f1_Keep (acc fL (occA r.f1_Keep) ([], [], r.f5_Vars)).1, setA r.f2_Remove (acc fL (occA r.f2_Remove) (acc fL (occA r.f1_Keep) ([], [], r.f5_Vars)).2).1, (acc fL (occA r.f2_Remove) (acc fL (occA r.f1_Keep) ([], [], r.f5_Vars)).2).2.2.1 ++ r.f3_Guard, r.f4_Body, r.f5_Vars⟩ := by
      unfold preL occH
      dsimp only [toR]
      rw [e2, ← e1, setH_eq _ _ _ (acc_len _ _)]
    have hl := lin_le (occH (toR r)) [] r.f5_Vars
    have hl2 := occH_le hB
    have hg : (acc fL (occA r.f2_Remove) (acc fL (occA r.f1_Keep) ([], [], r.f5_Vars)).2).2.2.1.length ≤ 2000 := by
      rw [e2]
      dsimp only
      rw [List.length_map]
      unfold occH at hl
      dsimp only [toR] at hl
      unfold occH at hl2
      dsimp only [toR] at hl2
      omega
    have h3l := lenG_wt r.f3_Guard
    rw [concat_lf (acc fL (occA r.f2_Remove) (acc fL (occA r.f1_Keep) ([], [], r.f5_Vars)).2).2.2.1 r.f3_Guard (by omega) (by omega) (by omega), Option.bind_some]
    have hG : (preL (toR r)).G = (acc fL (occA r.f2_Remove) (acc fL (occA r.f1_Keep) ([], [], r.f5_Vars)).2).2.2.1 ++ r.f3_Guard := by rw [ep]
    by_cases h12 : (preL (toR r)).G.length ≤ 12
    · have hd : ¬ (((acc fL (occA r.f2_Remove) (acc fL (occA r.f1_Keep) ([], [], r.f5_Vars)).2).2.2.1 ++ r.f3_Guard).length : Int) > 12 := by
        rw [← hG]
        omega
      rw [decide_eq_false hd, cond_false, if_pos ⟨hN, h12⟩]
      have hBp := hB.pre
      have := number_lf fuel (ofR (preL (toR r))) (hBp.mono (by omega)) hf
      rw [toR_ofR] at this
      rw [ep] at this ⊢
      unfold ofR at this
      dsimp only at this
      rw [this]
      rfl
    · have hd : (((acc fL (occA r.f2_Remove) (acc fL (occA r.f1_Keep) ([], [], r.f5_Vars)).2).2.2.1 ++ r.f3_Guard).length : Int) > 12 := by
        rw [← hG]
        omega
      rw [decide_eq_true hd, cond_true, if_neg (fun h => h12 h.2)]
      rfl
/-! ### linearity -/
theorem heads_lf (r : S_api_Rule) (hB : Bd 100000 (toR r)) : lf_occur_Heads r = some (r.f1_Keep ++ r.f2_Remove) := by
  have h1 := hB.a
  have h2 := hB.b
  simp only [toR] at h1 h2
  have l1 := lenA_wt r.f1_Keep
  have l2 := lenA_wt r.f2_Remove
  rw [lf_occur_Heads, lf_occur_count, Option.bind_some, wr_eq (by omega)]
  unfold makeO
  rw [if_pos (by omega), Option.bind_some, appO_le (by omega) (by simp; omega), Option.bind_some, List.nil_append, appO_le (by omega) (by omega), Option.bind_some]
theorem args_L0 (k : List T → Option (List T)) : ∀ (l : List At) (out : List T), out.length + (tsA l).length ≤ 1000000 → lf_normal_arguments_L0 k l out = k (out ++ tsA l)
  | [], out, _ => by rw [lf_normal_arguments_L0]; simp [tsA]
  | a :: l, out, h => by
    have e : tsA (a :: l) = a.ts ++ tsA l := rfl
    rw [e, List.length_append] at h
    rw [lf_normal_arguments_L0, appO_le (by omega) (by omega), Option.bind_some, args_L0 k l _ (by rw [List.length_append]; omega), e, List.append_assoc]
theorem tsA_app (a b : List At) : tsA (a ++ b) = tsA a ++ tsA b := List.flatMap_append
theorem args_lf (r : S_api_Rule) (hB : Bd 100000 (toR r)) : ∃ l, lf_normal_arguments r = some l ∧ occL l = occH (toR r) := by
  have h1 := hB.a
  have h2 := hB.b
  simp only [toR] at h1 h2
  have o1 := wt_tsA r.f1_Keep
  have o2 := wt_tsA r.f2_Remove
  have l1 := len_wtL (tsA r.f1_Keep)
  have l2 := len_wtL (tsA r.f2_Remove)
  refine ⟨tsA r.f1_Keep ++ tsA r.f2_Remove, ?_, ?_⟩
  · rw [lf_normal_arguments, heads_lf r hB, Option.bind_some, args_L0 _ _ _ (by rw [tsA_app]; simp; omega), tsA_app]
    rfl
  · rw [occL_app, occ_tsA, occ_tsA]
    rfl
def uOf (l : List Int) : List (Int × Unit) := l.map fun v => (v, ())
theorem mget_uOf (v : Int) : ∀ l : List Int, (mget (uOf l) v).isSome = decide (v ∈ l)
  | [] => rfl
  | x :: l => by
    have := mget_uOf v l
    unfold uOf at this ⊢
    rw [List.map_cons, mget]
    by_cases h : x = v
    · subst h
      simp
    · rw [if_neg (by exact h), this]
      have hx : (v ∈ x :: l) ↔ v ∈ l := by
        rw [List.mem_cons]
        exact ⟨fun e => e.resolve_left fun e => h e.symm, .inr⟩
      simp only [hx]
theorem isLin_L0 : ∀ (l s : List Int), s.length + l.length ≤ 1000000 → s.Nodup → TotP (lf_normal_IsLinear_L0 (some true) l (uOf s)) (Tells ((s ++ l).Nodup))
  | [], s, _, hs => by
    rw [lf_normal_IsLinear_L0]
    exact .pure (.t (by rwa [List.append_nil]))
  | v :: l, s, hl, hs => by
    rw [List.length_cons] at hl
    rw [lf_normal_IsLinear_L0, mget_uOf]
    by_cases h : v ∈ s
    · rw [decide_eq_true h, cond_true]
      exact .pure (.f fun k => (List.nodup_append.1 k).2.2 v h v (List.mem_cons_self ..) rfl)
    · rw [decide_eq_false h, cond_false]
      have hm : mput (uOf s) v () = uOf (s ++ [v]) := by
        have hg : mget (uOf s) v = none := by
          have := mget_uOf v s
          rw [decide_eq_false h] at this
          cases hx : mget (uOf s) v with
          | none => rfl
          | some u => rw [hx] at this; cases this
        rw [mput_new _ _ _ hg]
        unfold uOf
        rw [List.map_append]
        rfl
      unfold mputO
      rw [if_pos (by unfold uOf; rw [List.length_map]; omega), Option.bind_some, hm]
      have hn : (s ++ [v]).Nodup := by
        have := addU_nodup hs v
        rwa [addU, if_neg h] at this
      have := isLin_L0 l (s ++ [v]) (by rw [List.length_append, List.length_singleton]; omega) hn
      rwa [List.append_assoc, List.singleton_append] at this
theorem isLinear_tot (r : S_api_Rule) (hB : Bd 100000 (toR r)) : TotP (lf_normal_IsLinear r) (Tells ((occH (toR r)).Nodup)) := by
  obtain ⟨l, e, ho⟩ := args_lf r hB
  have hl := occH_le hB
  rw [lf_normal_IsLinear, e, Option.bind_some, x_occs, Option.bind_some, ho]
  have := isLin_L0 (occH (toR r)) [] (by simp; omega) List.nodup_nil
  rwa [List.nil_append] at this
end Go.Proofs.Ytlannippingfdaa


namespace Go.Proofs.Ytlannippingfdaa
set_option maxRecDepth 100000
open Go.RowKit

/-! ### occurrences -/
theorem occA_app : ∀ a b : List At, occA (a ++ b) = occA a ++ occA b
  | [], b => rfl
  | x :: a, b => by rw [List.cons_append, occA, occA, occA_app a b, List.append_assoc]
theorem rheads_lf (r : S_api_Rule) (hB : Bd 100000 (toR r)) : lf_constraintref16_Heads r = some (r.f1_Keep ++ r.f2_Remove) := by
  have h1 := hB.a
  have h2 := hB.b
  simp only [toR] at h1 h2
  have l1 := lenA_wt r.f1_Keep
  have l2 := lenA_wt r.f2_Remove
  rw [lf_constraintref16_Heads, appO_le (by omega) (by simp; omega), Option.bind_some, List.nil_append, appO_le (by omega) (by omega), Option.bind_some]
/-! ### the reference's linear form -/
theorem Nb_v (r : Ru) (n : Int) : Nb (wv r n) = Nb r := rfl
end Go.Proofs.Ytlannippingfdaa


namespace Go.Proofs.Ytlannippingfdaa
set_option maxRecDepth 100000
open Go.RowKit

/-- The numbers of a test. -/
def prG (g : Gl) : Int × Int := match g.ts with
  | [a, b] => (a.i, b.i)
  | _ => (0, 0)
/-- A joining test, ahead of other goals; l: the occurrences in the heads. -/
def jOk (g : Gl) (G B : List Gl) (l : List Int) : Prop := g.op = 5 ∧ rightG g = true ∧ (∃ a b, g.ts = [a, b] ∧ a.k = 1 ∧ b.k = 1) ∧ (prG g).1 ≠ (prG g).2 ∧ l.count (prG g).1 = 1 ∧ (prG g).2 ∈ l ∧ (prG g).1 ∉ occG G ∧ (prG g).1 ∉ occG B
open Classical in
noncomputable def jnG (B : List Gl) : List Gl → List Int → List Int × List Gl
  | [], l => (l, [])
  | g :: G, l => if jOk g G B l then jnG B G (sub1 (prG g).1 (prG g).2 l) else (l, g :: G)
def JO (r : Ru) : Prop := match r.G with
  | [] => False
  | g :: G => jOk g G r.B (occH r)
noncomputable def jnR (r : Ru) : Ru := { setH r (jnG r.B r.G (occH r)).1 with G := (jnG r.B r.G (occH r)).2 }
open Classical in
noncomputable def joinR (r : Ru) : Ru := if IsNb r then Nb (jnR r) else r
theorem two {α : Type} {l : List α} (h : l.length = 2) : ∃ a b, l = [a, b] := by
  match l, h with
  | [a, b], _ => exact ⟨a, b, rfl⟩
theorem right5 {g : Gl} (h : g.op = 5) (hr : rightG g = true) : ∃ a b, g.ts = [a, b] := by
  unfold rightG at hr
  rw [if_neg (by omega)] at hr
  simp only [Bool.and_eq_true, decide_eq_true_eq] at hr
  have h2 := hr.1.2
  rw [h] at h2
  have : arityG 5 = 2 := rfl
  rw [this] at h2
  exact two (by omega)
/-! ### counts -/
theorem uses_L1 (k : Int → Option Int) (v : Int) : ∀ (l : List Int) (n : Int), 0 ≤ n → n + l.length ≤ 1000000 → lf_normal_uses_L1 k v l n = k (n + (l.count v : Nat))
  | [], n, _, _ => by rw [lf_normal_uses_L1]; simp
  | x :: l, n, h0, h => by
    rw [List.length_cons] at h
    rw [lf_normal_uses_L1]
    by_cases e : x = v
    · subst e
      rw [beqT rfl, cond_true, wr_eq (by omega), uses_L1 k x l (n + 1) (by omega) (by omega), List.count_cons_self]
      congr 1
      omega
    · rw [beqF e, cond_false, uses_L1 k v l n h0 (by omega), List.count_cons_of_ne e]
theorem uses_L0 (k : Int → Option Int) (v : Int) : ∀ (l : List Gl) (n : Int), 0 ≤ n → n + (occG l).length ≤ 1000000 → lf_normal_uses_L0 k v l n = k (n + ((occG l).count v : Nat))
  | [], n, _, _ => by rw [lf_normal_uses_L0]; simp [occG]
  | g :: l, n, h0, h => by
    rw [occG, List.length_append] at h
    have hc : (occL g.ts).count v ≤ (occL g.ts).length := List.count_le_length
    rw [lf_normal_uses_L0, x_occs, Option.bind_some, uses_L1 _ v _ n h0 (by omega), uses_L0 k v l _ (by omega) (by omega), occG, List.count_append]
    congr 1
    omega
theorem uses_lf (l : List Gl) (v : Int) (h : (occG l).length ≤ 1000000) : lf_normal_uses l v = some ((occG l).count v : Int) := by
  rw [lf_normal_uses, uses_L0 _ v l 0 (by omega) (by omega)]
  simp
theorem joining_L0 (k : List (Int × Int) → Option (Int × Int × Bool)) : ∀ (l : List Int) (mm : List (Int × Int)) (c : Int → Nat), (∀ v, (mget mm v).getD 0 = (c v : Int)) → (∀ v, c v + l.length ≤ 1000000) → mm.length + l.length ≤ 1000000 →
    ∃ mm', lf_normal_joining_L0 k l mm = k mm' ∧ ∀ v, (mget mm' v).getD 0 = ((c v + l.count v : Nat) : Int)
  | [], mm, c, hc, _, _ => ⟨mm, by rw [lf_normal_joining_L0], fun v => by rw [hc]; simp⟩
  | x :: l, mm, c, hc, hb, hm => by
    rw [List.length_cons] at hm
    have hx := hb x
    rw [List.length_cons] at hx
    have e1 : wr ((mget mm x).getD 0 + 1) = ((c x + 1 : Nat) : Int) := by rw [hc, wr_eq (by omega)]; omega
    have hl := mput_len mm x ((c x + 1 : Nat) : Int)
    obtain ⟨mm', h1, h2⟩ := joining_L0 k l (mput mm x ((c x + 1 : Nat) : Int)) (fun v => if x = v then c x + 1 else c v) (fun v => by
      rw [mget_mput]
      by_cases e : x = v
      · rw [if_pos e, if_pos e]; rfl
      · rw [if_neg e, if_neg e]; exact hc v) (fun v => by
      have := hb v
      rw [List.length_cons] at this
      split <;> omega) (by omega)
    refine ⟨mm', ?_, fun v => ?_⟩
    · rw [lf_normal_joining_L0, e1]
      unfold mputO
      rw [if_pos (by omega), Option.bind_some, h1]
    · rw [h2]
      by_cases e : x = v
      · subst e
        rw [if_pos rfl, List.count_cons_self]
        omega
      · rw [if_neg e, List.count_cons_of_ne e]
theorem sub_tail {α : Type} {g : α} {G : List α} : subO (g :: G) 1 ((g :: G).length : Int) = some G := by
  unfold subO
  rw [if_pos (by rw [List.length_cons]; omega)]
  simp
theorem count_pos {v : Int} {l : List Int} : ((l.count v : Nat) : Int) > 0 ↔ v ∈ l := by
  rw [← List.count_pos_iff]
  omega
theorem count_zero {v : Int} {l : List Int} : ((l.count v : Nat) : Int) = 0 ↔ v ∉ l := by
  rw [← List.count_eq_zero]
  omega
/-- What joining tells. -/
def TellsJ (r : Ru) (p : Int × Int × Bool) : Prop := Tells (JO r) p.2.2 ∧ (p.2.2 = true → ∃ g G, r.G = g :: G ∧ p.1 = (prG g).1 ∧ p.2.1 = (prG g).2)
theorem TellsJ.f {r : Ru} {a b : Int} (h : ¬ JO r) : TellsJ r (a, b, false) := ⟨.f h, fun e => by cases e⟩
theorem joining_tot (r : S_api_Rule) (hB : Bd 100000 (toR r)) : TotP (lf_normal_joining r) (TellsJ (toR r)) := by
  have h3 := hB.c
  have h4 := hB.d
  obtain ⟨l, el, ho⟩ := args_lf r hB
  have hl := occH_le hB
  rw [lf_normal_joining]
  obtain ⟨nm, K, R, GG, B, v⟩ := r
  simp only [toR] at *
  cases GG with
  | nil =>
    rw [List.length_nil, beqT (show ((0 : Nat) : Int) = 0 from rfl), cond_true]
    exact .pure (.f fun h => h)
  | cons g G =>
    have hJ : JO ⟨nm, K, R, g :: G, B, v⟩ ↔ jOk g G B (occH ⟨nm, K, R, g :: G, B, v⟩) := Iff.rfl
    rw [beqF (by simp; omega), cond_false, show getI (g :: G) 0 = some g from rfl, Option.bind_some]
    refine .cond (fun e => .pure (.f fun k => ?_)) fun e5 => ?_
    · have := (hJ.1 k).1
      rw [this] at e
      cases e
    have h5 : g.op = 5 := by simpa using e5
    rw [wG] at h3
    rw [x_rightG, if_pos (by omega), Option.bind_some]
    refine .cond (fun e => .pure (.f fun k => ?_)) fun er => ?_
    · rw [(hJ.1 k).2.1] at e
      cases e
    have hr : rightG g = true := by simpa using er
    obtain ⟨a, b, hab⟩ := right5 h5 hr
    have hpr : prG g = (a.i, b.i) := by unfold prG; rw [hab]
    rw [hab, show getI [a, b] 0 = some a from rfl, Option.bind_some]
    refine .cond (fun e => .pure (.f fun k => ?_)) fun ea => ?_
    · obtain ⟨a', b', q1, q2, q3⟩ := (hJ.1 k).2.2.1
      rw [hab] at q1
      obtain ⟨rfl, q4⟩ := List.cons.inj q1
      rw [q2] at e
      cases e
    have hak : a.k = 1 := by simpa using ea
    rw [show getI [a, b] 1 = some b from rfl, Option.bind_some]
    refine .cond (fun e => .pure (.f fun k => ?_)) fun eb => ?_
    · obtain ⟨a', b', q1, q2, q3⟩ := (hJ.1 k).2.2.1
      rw [hab] at q1
      obtain ⟨_, q4⟩ := List.cons.inj q1
      obtain ⟨rfl, _⟩ := List.cons.inj q4
      rw [q3] at e
      cases e
    have hbk : b.k = 1 := by simpa using eb
    rw [el, Option.bind_some, x_occs, Option.bind_some]
    obtain ⟨mm, e1, hc⟩ := joining_L0 (fun mm_17 => (bif (a.i != b.i) then (bif (((mget mm_17 a.i).getD 0) == (1 : Int)) then (bif (decide (((mget mm_17 b.i).getD 0) > (0 : Int))) then ((subO (g :: G) 1 ((g :: G).length : Int)).bind fun l_21 => ((lf_normal_uses l_21 a.i).bind fun r_22 => (bif (r_22 == (0 : Int)) then ((lf_normal_uses B a.i).bind fun r_24 => some (a.i, b.i, (r_24 == (0 : Int)))) else some (a.i, b.i, false)))) else some (a.i, b.i, false)) else some (a.i, b.i, false)) else some (a.i, b.i, false))) (occL l) [] (fun _ => 0) (fun v => rfl) (fun v => by rw [ho]; omega) (by rw [ho]; simp; omega)
    rw [e1]
    simp only [hc, ho, Nat.zero_add]
    refine .cond (fun ex => ?_) fun e => .pure (.f fun k => ?_)
    rotate_left
    · have := (hJ.1 k).2.2.2.1
      rw [hpr] at this
      exact this (by simpa using e)
    refine .cond (fun ec => ?_) fun e => .pure (.f fun k => ?_)
    rotate_left
    · have := (hJ.1 k).2.2.2.2.1
      rw [hpr] at this
      rw [beq_eq_false_iff_ne] at e
      exact e (by dsimp only at this; omega)
    refine .cond (fun ey => ?_) fun e => .pure (.f fun k => ?_)
    rotate_left
    · have := (hJ.1 k).2.2.2.2.2.1
      rw [hpr] at this
      exact of_decide_eq_false e (count_pos.2 this)
    have oG := occG_wt G
    have oB := occG_wt B
    rw [sub_tail, Option.bind_some, uses_lf G a.i (by omega), Option.bind_some]
    refine .cond (fun eG => ?_) fun e => .pure (.f fun k => ?_)
    rotate_left
    · have := (hJ.1 k).2.2.2.2.2.2.1
      rw [hpr] at this
      rw [beq_eq_false_iff_ne] at e
      exact e (count_zero.2 this)
    rw [uses_lf B a.i (by omega), Option.bind_some]
    refine .pure ⟨?_, fun _ => ⟨g, G, rfl, by rw [hpr], by rw [hpr]⟩⟩
    unfold Tells
    rw [hJ, beq_iff_eq, count_zero]
    unfold jOk
    rw [hpr]
    have ec' := beq_iff_eq.1 ec
    have eG' := beq_iff_eq.1 eG
    exact ⟨fun k => ⟨h5, hr, ⟨a, b, hab, hak, hbk⟩, by simpa using ex, by dsimp only; omega, count_pos.1 (of_decide_eq_true ey), count_zero.1 eG', k⟩, fun k => k.2.2.2.2.2.2.2⟩
/-! ### one step -/
def swp (x y v : Int) : Int := if v = x then y else v
theorem ren2_L0 {rec : List T → Int → Int → Option (List T × Int × Int)} (x y : Int) (k : List T → Int → Int → Option (List T × Int × Int)) :
    ∀ (ts done : List T), (∀ q ∈ ts, rec q.ar x y = some (numL (swp x y) q.ar, x, y)) →
    lf_normal_renamed_s2_L0 k rec ts.length (done.length : Int) x y (done ++ ts) = k (done ++ numL (swp x y) ts) x y
  | [], done, _ => by rw [List.length_nil, lf_normal_renamed_s2_L0, numL]
  | q :: ts, done, hr => by
    have step : ∀ t : T, t = numT (swp x y) q → lf_normal_renamed_s2_L0 k rec ts.length ((done.length : Int) + 1) x y ((done ++ q :: ts).set (done.length : Int).toNat t) = k (done ++ numL (swp x y) (q :: ts)) x y := fun t ht => by
      rw [set_mid, show ((done.length : Int) + 1) = ((done ++ [t]).length : Int) by simp, ren2_L0 x y k ts (done ++ [t]) (fun u hu => hr u (List.mem_cons_of_mem _ hu)), numL, ht, List.append_assoc, List.singleton_append]
    rw [List.length_cons, lf_normal_renamed_s2_L0, getI_mid, Option.bind_some]
    refine bif3 (fun h => ?_) (fun h => ?_) (fun h1 h2 => ?_)
    · rw [lf_normal_Join_1_s1]
      by_cases e : q.i = x
      · rw [beqT e, cond_true, Option.bind_some]
        refine step _ ?_
        rw [numT_k1 _ h, swp, if_pos e]
      · rw [beqF e, cond_false, Option.bind_some]
        refine step _ ?_
        rw [numT_k1 _ h, swp, if_neg e]
    · rw [hr q (List.mem_cons_self ..), Option.bind_some]
      refine step _ ?_
      rw [numT_k2 _ h]
    · have e : (done ++ q :: ts) = (done ++ q :: ts).set (done.length : Int).toNat q := by rw [set_mid]; simp
      rw [e]
      refine step _ ?_
      rw [numT_k0 _ h1 h2]
      cases q; rfl
theorem ren2_lf (x y : Int) : ∀ (fuel : Nat) (ts : List T), wtL ts < fuel → wtL ts ≤ 1000000 → lf_normal_renamed_s2 fuel ts x y = some (numL (swp x y) ts, x, y)
  | 0, _, h, _ => absurd h (Nat.not_lt_zero _)
  | fuel + 1, ts, h, hw => by
    have := len_wtL ts
    rw [lf_normal_renamed_s2]
    dsimp only
    rw [appO_le (by omega) (by simp; omega), Option.bind_some, List.nil_append, show ((ts.length : Int) - 0).toNat = ts.length by omega]
    exact ren2_L0 (rec := lf_normal_renamed_s2 fuel) x y (fun a_7 l_8 l_9 => some (a_7, l_8, l_9)) ts [] fun q hq => by
      have h1 := wt_mem hq
      have h2 := wt_eq q
      exact ren2_lf x y fuel q.ar (by omega) (by omega)
theorem heads2_L0 (x y : Int) (fuel : Nat) (k : List At → Int → Int → Option (List At × Int × Int)) : ∀ (ts done : List At), wA ts < fuel → wA ts ≤ 1000000 →
    lf_normal_heads_s2_L0 k fuel ts.length (done.length : Int) x y (done ++ ts) = k (done ++ numA (swp x y) ts) x y
  | [], done, _, _ => by rw [List.length_nil, lf_normal_heads_s2_L0]; rfl
  | q :: ts, done, hf, hw => by
    rw [wA] at hf hw
    rw [List.length_cons, lf_normal_heads_s2_L0, getI_mid, Option.bind_some, ren2_lf x y fuel q.ts (by omega) (by omega), Option.bind_some, set_mid]
    have := heads2_L0 x y fuel k ts (done ++ [⟨q.n, numL (swp x y) q.ts⟩]) (by omega) (by omega)
    rw [List.length_append, List.length_singleton, Int.natCast_add] at this
    refine this.trans ?_
    rw [List.append_assoc]
    rfl
theorem heads2_lf (x y : Int) (fuel : Nat) (ts : List At) (hf : wA ts < fuel) (hw : wA ts ≤ 1000000) : lf_normal_heads_s2 fuel ts x y = some (numA (swp x y) ts, x, y) := by
  have := lenA_wt ts
  rw [lf_normal_heads_s2, appO_le (by omega) (by simp; omega), Option.bind_some, List.nil_append, show ((ts.length : Int) - 0).toNat = ts.length by omega]
  exact heads2_L0 x y fuel (fun a_7 l_8 l_9 => some (a_7, l_8, l_9)) ts [] hf hw
/-- A rule behind one step. -/
def stepR (x y : Int) (r : Ru) : Ru := { setH r (sub1 x y (occH r)) with G := r.G.tail }
theorem stepR_eq (x y : Int) (r : Ru) : stepR x y r = ⟨r.n, numA (swp x y) r.K, numA (swp x y) r.R, r.G.tail, r.B, r.v⟩ := by
  unfold stepR
  have e : sub1 x y (occH r) = (occA r.K).map (swp x y) ++ (occA r.R).map (swp x y) := by
    unfold sub1 occH
    rw [List.map_append]
    rfl
  rw [e, setH_eq r _ _ (List.length_map _), numA_set, numA_set]
theorem occH_step (x y : Int) (r : Ru) : occH (stepR x y r) = sub1 x y (occH r) := by
  have h : (sub1 x y (occH r)).length = (occH r).length := List.length_map _
  exact occH_setH (r := r) h
theorem Bd.step {m : Nat} {r : Ru} (h : Bd m r) (x y : Int) : Bd m (stepR x y r) := by
  have h3 := h.c
  unfold stepR setH
  refine ⟨by rw [wA_set]; exact h.a, by rw [wA_set]; exact h.b, ?_, h.d⟩
  dsimp only
  cases hG : r.G with
  | nil => rw [List.tail_nil]; exact Nat.zero_le _
  | cons g G =>
    rw [hG, wG] at h3
    rw [List.tail_cons]
    omega
theorem jnR_step {r : Ru} {g : Gl} {G : List Gl} (hG : r.G = g :: G) (h : jOk g G r.B (occH r)) : jnR r = jnR (stepR (prG g).1 (prG g).2 r) := by
  have h1 : (sub1 (prG g).1 (prG g).2 (occH r)).length = (occH r).length := List.length_map _
  have e : (stepR (prG g).1 (prG g).2 r).G = G := by unfold stepR; rw [hG]; rfl
  have eB : (stepR (prG g).1 (prG g).2 r).B = r.B := rfl
  unfold jnR
  rw [occH_step, e, eB, hG, jnG, if_pos h]
  have hs : ∀ m : List Int, setH (stepR (prG g).1 (prG g).2 r) m = { setH r m with G := G } := fun m => by
    have := setH_set (r := r) m h1
    unfold stepR
    rw [hG]
    show { setH (setH r (sub1 (prG g).1 (prG g).2 (occH r))) m with G := G } = _
    rw [this]
  rw [hs]
theorem jnR_stop {r : Ru} (h : ¬ JO r) : jnR r = r := by
  unfold jnR
  have : jnG r.B r.G (occH r) = (occH r, r.G) := by
    unfold JO at h
    cases hG : r.G with
    | nil => rfl
    | cons g G =>
      rw [hG] at h
      rw [jnG, if_neg h]
  rw [this]
  dsimp only
  rw [setH_self]
theorem jn_bd {m : Nat} : ∀ (n : Nat) (r : Ru), r.G.length = n → Bd m r → Bd m (jnR r) := by
  intro n
  induction n with
  | zero =>
    intro r hn hB
    rw [jnR_stop (fun h => by unfold JO at h; rw [List.eq_nil_of_length_eq_zero hn] at h; exact h)]
    exact hB
  | succ n ih =>
    intro r hn hB
    by_cases h : JO r
    · cases hG : r.G with
      | nil => rw [hG] at hn; cases hn
      | cons g G =>
        have h' := h
        unfold JO at h'
        rw [hG] at h'
        rw [jnR_step hG h']
        refine ih _ ?_ (hB.step _ _)
        unfold stepR
        rw [hG] at hn ⊢
        simpa using hn
    · rw [jnR_stop h]
      exact hB
theorem join_L0 (fuel : Nat) (hf : 100000 < fuel) (k : S_api_Rule → Option S_api_Rule) : ∀ (n : Nat) (r : S_api_Rule) (p : Int × Int × Bool), r.f3_Guard.length < n → Bd 100000 (toR r) → TellsJ (toR r) p → lf_normal_Join_L0 k fuel n p.2.2 r p.1 p.2.1 = k (ofR (jnR (toR r))) := by
  intro n
  induction n with
  | zero => intro r p h; omega
  | succ n ih =>
    intro r p hn hB hT
    obtain ⟨x, y, b⟩ := p
    rw [lf_normal_Join_L0]
    cases b with
    | false =>
      rw [cond_false, jnR_stop (fun h => by have := hT.1.2 h; cases this)]
      rfl
    | true =>
      have hJ := hT.1.1 rfl
      obtain ⟨g, G, hG, hx, hy⟩ := hT.2 rfl
      dsimp only at hx hy
      have h1 := hB.a
      have h2 := hB.b
      simp only [toR] at h1 h2 hG
      rw [cond_true, heads2_lf x y fuel _ (by omega) (by omega), Option.bind_some]
      dsimp only
      rw [heads2_lf x y fuel _ (by omega) (by omega), Option.bind_some, hG, sub_tail, Option.bind_some]
      have es : stepR x y (toR r) = ⟨r.f0_Name, numA (swp x y) r.f1_Keep, numA (swp x y) r.f2_Remove, G, r.f4_Body, r.f5_Vars⟩ := by
        rw [stepR_eq]
        simp only [toR, hG, List.tail_cons]
      have hB' : Bd 100000 (toR ⟨r.f0_Name, numA (swp x y) r.f1_Keep, numA (swp x y) r.f2_Remove, G, r.f4_Body, r.f5_Vars⟩) := by
        have := hB.step x y
        rw [es] at this
        exact this
      obtain ⟨p', e, hT'⟩ := joining_tot _ hB'
      rw [e, Option.bind_some]
      have := ih _ p' (by rw [hG, List.length_cons] at hn; dsimp only; omega) hB' hT'
      rw [this]
      congr 2
      have hj : jOk g G (toR r).B (occH (toR r)) := by
        unfold JO at hJ
        rw [show (toR r).G = g :: G from hG] at hJ
        exact hJ
      rw [jnR_step (r := toR r) hG hj, ← hx, ← hy, es]
      rfl
theorem join_lf (fuel : Nat) (r : S_api_Rule) (hB : Bd 100000 (toR r)) (hf : 200000 < fuel) : lf_normal_Join fuel r = some (ofR (joinR (toR r))) := by
  obtain ⟨b, e, hb⟩ := numbered_tot fuel r hB (by omega)
  rw [lf_normal_Join, e, Option.bind_some]
  unfold joinR
  cases b with
  | false =>
    rw [Bool.not_false, cond_true, if_neg (fun h => by have := hb.2 h; cases this)]
    rfl
  | true =>
    have h3 := hB.c
    have h3l := lenG_wt r.f3_Guard
    simp only [toR] at h3
    obtain ⟨p, ep, hp⟩ := joining_tot r hB
    rw [Bool.not_true, cond_false, ep, Option.bind_some, if_pos (hb.1 rfl), join_L0 fuel (by omega) _ fuel r p (by omega) hB hp]
    have := number_lf fuel (ofR (jnR (toR r))) (by rw [toR_ofR]; exact jn_bd _ _ rfl hB) (by omega)
    rw [this]
    rfl
end Go.Proofs.Ytlannippingfdaa


namespace Go.Proofs.Ytlannippingfdaa
set_option maxRecDepth 100000
open Go.RowKit

/-! ### joining -/
/-- Equal but for what the heads do not use. -/
structure Eh (a b : Ru) : Prop where
  n : a.n = b.n
  K : cleanA a.K = cleanA b.K
  R : cleanA a.R = cleanA b.R
  G : a.G = b.G
  B : a.B = b.B
  v : a.v = b.v
theorem Eh.occ {a b : Ru} (h : Eh a b) : occH a = occH b := by
  unfold occH
  rw [← occA_clean a.K, ← occA_clean a.R, h.K, h.R, occA_clean, occA_clean]
end Go.Proofs.Ytlannippingfdaa

