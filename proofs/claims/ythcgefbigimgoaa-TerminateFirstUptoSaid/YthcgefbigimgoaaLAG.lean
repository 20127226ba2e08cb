/-
  Texts of the seat, merged.
-/
import Derived.Test.YthcgefbigimgoaaLAA
import Derived.Test.YthcgefbigimgoaaLAB
import Derived.Test.YthcgefbigimgoaaLAC
import Derived.Test.YthcgefbigimgoaaLAD
import Derived.Test.YthcgefbigimgoaaLAE
import Derived.Test.YthcgefbigimgoaaLAF
import Derived.Test.YthcgefbigimgoaaChecked
import Derived.WalkKit
import Derived.Lib.Hide
import Derived.Lib.AppendStr
import Derived.Deep.AppendLies
import Derived.Deep.AppendSrc
import Derived.Deep.Draws
import Derived.Deep.QuietTactic
import Derived.BigQuiet
import Derived.Deep.RegionWith
import Derived.Maps.AppendAt
import Derived.WalkSpells
import Derived.Orders
import Derived.Deep.Slices
import Derived.Deep.Fields
import Derived.ChangeArms
import Derived.Lib.OthersKept
import Derived.Lib.TrimU
import Derived.Lib.IndexAny
import Derived.Deep.LoopGhost
import Derived.Lib.Bytealg
import Derived.RangeFuncBox
import Derived.RangeFuncNested
import Derived.RangeFuncBound
import Derived.RangeFuncCalls
import Derived.RangeFuncLeaves
import Derived.Shelf.Abstract
import Derived.OwnWalkIn
import Derived.TacticsInMore
import Derived.LoopNIn
import Derived.LoopIn
import Derived.RangeFuncWrites
import Derived.Maps.OwnIn
import Derived.Maps.Views
import Derived.Laws.OwnMore
import Derived.Maps.OwnSet
import Derived.Test.YthcgefbigimgoaaRows
import Derived.ProofKit
import Derived.OpenShut
import Derived.Carry
import Derived.Great.BuildSlice
import Derived.ArgAppend
import Derived.Laws.MakeOwn
import Derived.Laws.Cover3
import Derived.Laws.CopyRow
import Derived.MapKept
import Derived.Maps.RangeRun
set_option linter.unusedVariables false
set_option linter.unusedSimpArgs false
set_option linter.unnecessarySimpa false
set_option linter.all false

namespace Go.Proofs.Ythcgefbigimgoaa
set_option maxRecDepth 100000
open Go.RowKit

theorem bo_api_Rank_2 : BuildT Try.prog 56 [.str ⟨#[]⟩, .int .i64 0, .own (.slice none 0 0) []] := .mk rfl (by kernel_rfl) Try.underlying56 (by kernel_rfl)

noncomputable def lf_constraintref03_Var (n_a0 : Int) : Option (T) :=
  some ((T.mk 1 n_a0 ⟨#[]⟩ []))

set_option maxHeartbeats 1000000 in
theorem lg_constraintref03_Var (n_a0 : Int) (res : T) (hr : lf_constraintref03_Var n_a0 = some res) : Gives Try.prog 20 [.int .i64 n_a0] (encT res) := by
  unfold lf_constraintref03_Var at hr
  refine spec_env [(0, .int .i64 n_a0)] Try.func20 rfl rfl fun K hK => ?_
  refine g_seq ?_
  refine g_run (by kernel_rfl) [(0, .w)] rfl ?_
  refine r_w rfl rfl rfl (s_alloc rfl zv_api_Term) ?_
  rintro _ _ ⟨b2_0, rfl, rfl⟩
  refine r_end ?_
  refine g_seq ?_
  refine g_run (by kernel_rfl) [(0, .d), (1, .d), (2, .w)] rfl ?_
  refine r_d rfl rfl rfl (s_move rfl rfl) ?_
  refine r_d rfl rfl rfl (s_build rfl bt_api_Term (.cons rfl (Wk.refl _) (.cons rfl (Wk.refl _) .nil)) (.cons rfl rfl rfl (.cons rfl rfl rfl (.nil _)))) ?_
  refine r_w01 rfl rfl rfl (t_store0 _ rfl rfl rfl (Wk.refl _) (pf0 _) (by exact ty_api_Term) rfl rfl rfl) ?_
  refine r_end ?_
  obtain rfl := Option.some.inj hr
  refine g_ret Try.func20 _ (.cons (resRef rfl (.head _) (by exact ty_api_Term) rfl (Wk.refl _)) .nil) ?_
  first | rfl | simp [packD, encT, fsT_eq, T.k, T.i, T.s, T.ar]

noncomputable def lf_constraintlaw42_func1 (from_a0 : ByteArray) (to_a1 : ByteArray) (t_a2 : T) : Option (S_api_Rule) :=
  ((lf_constraintref03_Var 0).bind fun r_2 =>
  some ((⟨⟨#[]⟩, [], [(⟨from_a0, [t_a2]⟩ : At)], [], [(⟨0, to_a1, [r_2]⟩ : Gl)], 1⟩ : S_api_Rule)))

set_option maxHeartbeats 1000000 in
theorem lg_constraintlaw42_func1 (from_a0 : ByteArray) (to_a1 : ByteArray) (t_a2 : T) (res : S_api_Rule) (hr : lf_constraintlaw42_func1 from_a0 to_a1 t_a2 = some res) : Gives Try.prog 21 [.str from_a0, .str to_a1, encT t_a2] (enc_S_api_Rule res) := by
  unfold lf_constraintlaw42_func1 at hr
  refine spec_env [(0, .str from_a0), (1, .str to_a1), (2, encT t_a2)] Try.func21 rfl rfl fun K hK => ?_
  refine g_seq ?_
  refine g_run (by kernel_rfl) [(0, .d), (1, .w)] rfl ?_
  refine r_d rfl rfl rfl (s_box rfl rfl rfl) ?_
  refine r_w rfl rfl rfl (s_alloc rfl zv_api_Rule) ?_
  rintro _ _ ⟨b6_0, rfl, rfl⟩
  refine r_end ?_
  refine g_seq ?_
  refine g_any (by kernel_rfl) (by kernel_rfl) [(0, .d), (1, .d), (2, .d), (3, .d), (4, .d), (5, .d), (6, .d), (7, .d), (8, .d), (9, .d), (10, .d), (11, .w)] (by kernel_rfl) ?_
  refine r_d rfl rfl rfl (s_move rfl rfl) ?_
  refine r_d rfl rfl rfl (s_load rfl rfl (by exact ty_api_Term) (sz_encT _)) ?_
  refine r_d rfl rfl rfl (m_lit (f := encT) [.tmp 8] [t_a2] rfl el_L_api_Term rfl rfl (by decide) (by decide) (.cons rfl (Wk.refl _) .nil) sz_encT (fun _ => rfl)) ?_
  refine r_d rfl rfl rfl (s_build rfl bt_api_Atom (.cons rfl (Wk.refl _) (.cons rfl (Wk.full _) .nil)) (.cons rfl rfl rfl (.cons rfl rfl rfl (.nil _)))) ?_
  refine r_d rfl rfl rfl (m_lit (f := encA) [.tmp 10] [(⟨from_a0, [t_a2]⟩ : At)] rfl el_L_api_Atom rfl rfl (by decide) (by decide) (.cons rfl (Wk.refl _) .nil) sz_encA (fun _ => rfl)) ?_
  refine r_d rfl rfl rfl (s_move rfl rfl) ?_
  obtain ⟨r_2, hr_2, hr⟩ := bindS hr
  refine r_d rfl rfl rfl (s_callD rfl cl_constraintref03_Var (.cons rfl (Wk.refl _) .nil) (lg_constraintref03_Var _ _ hr_2)) ?_
  refine r_d rfl rfl rfl (m_lit (f := encT) [.tmp 13] [r_2] rfl el_L_api_Term rfl rfl (by decide) (by decide) (.cons rfl (Wk.refl _) .nil) sz_encT (fun _ => rfl)) ?_
  refine r_d rfl rfl rfl (s_build rfl bt_api_Goal (.cons rfl (Wk.refl _) (.cons rfl (Wk.full _) .nil)) (.cons rfl rfl rfl (.cons rfl rfl rfl (.nil _)))) ?_
  refine r_d rfl rfl rfl (m_lit (f := encG) [.tmp 15] [(⟨0, to_a1, [r_2]⟩ : Gl)] rfl el_L_api_Goal rfl rfl (by decide) (by decide) (.cons rfl (Wk.refl _) .nil) sz_encG (fun _ => rfl)) ?_
  refine r_d rfl rfl rfl (s_build rfl bt_api_Rule (.cons rfl (Wk.full _) (.cons rfl (Wk.full _) (.cons rfl (Wk.refl _) .nil))) (.cons rfl rfl rfl (.cons rfl rfl rfl (.cons rfl rfl rfl (.nil _))))) ?_
  refine r_w01 rfl rfl rfl (t_store0 _ rfl rfl rfl (Wk.refl _) (pf0 _) (by exact ty_api_Rule) rfl rfl rfl) ?_
  refine r_end ?_
  obtain rfl := Option.some.inj hr
  refine g_ret Try.func21 _ (.cons (resRef rfl (.head _) (by exact ty_api_Rule) rfl (Wk.refl _)) .nil) ?_
  rfl

noncomputable def lf_constraintref03_Fun (name_a0 : ByteArray) (args_a1 : (List T)) : Option (T) :=
  ((appO 56 [] args_a1).bind fun l_3 =>
  some ((T.mk 2 0 name_a0 l_3)))

set_option maxHeartbeats 1000000 in
theorem lg_constraintref03_Fun (name_a0 : ByteArray) (args_a1 : (List T)) (res : T) (hr : lf_constraintref03_Fun name_a0 args_a1 = some res) : Gives Try.prog 22 [.str name_a0, .lst (args_a1.map encT)] (encT res) := by
  unfold lf_constraintref03_Fun at hr
  refine spec_env [(0, .str name_a0), (1, .lst (args_a1.map encT))] Try.func22 rfl rfl fun K hK => ?_
  refine g_seq ?_
  refine g_run (by kernel_rfl) [(0, .w)] rfl ?_
  refine r_w rfl rfl rfl (s_alloc rfl zv_api_Term) ?_
  rintro _ _ ⟨b4_0, rfl, rfl⟩
  refine r_end ?_
  refine g_seq ?_
  refine g_run (by kernel_rfl) [(0, .d), (1, .w), (2, .d), (3, .w), (4, .d), (5, .w)] rfl ?_
  refine r_d rfl rfl rfl (s_move rfl rfl) ?_
  refine r_w rfl rfl rfl (s_lit0Own rfl el_L_api_Term rfl) ?_
  rintro _ _ ⟨u6_1, rfl, rfl⟩
  refine r_d rfl rfl rfl (s_move rfl rfl) ?_
  obtain ⟨l_3, hl_3, hr⟩ := bindS hr
  refine r_w rfl rfl rfl (m_appOwn (f := encT) [] args_a1 rfl el_L_api_Term rfl rfl (asl rfl) (pf0 _) rfl sz_encT hl_3) ?_
  rintro _ _ ⟨u8_3, rfl, rfl⟩
  refine r_d rfl rfl rfl (s_build rfl bt_api_Term (.cons rfl (Wk.refl _) (.cons rfl (Wk.refl _) (.cons rfl (Wk.own _ _) .nil))) (.cons rfl rfl rfl (.cons rfl rfl rfl (.cons rfl rfl rfl (.nil _))))) ?_
  refine r_w01 rfl rfl rfl (t_store0 _ rfl rfl rfl (Wk.refl _) (pf1 _ _ _) (by exact ty_api_Term) rfl rfl rfl) ?_
  refine r_end ?_
  obtain rfl := Option.some.inj hr
  refine g_ret Try.func22 _ (.cons (resRef rfl (.head _) (by exact ty_api_Term) rfl (Wk.refl _)) .nil) ?_
  first | rfl | simp [packD, encT, fsT_eq, T.k, T.i, T.s, T.ar]

noncomputable def lf_terminate_count_L0 (k : (Int) → Option (Int × Bool)) : List S_api_Decl → Int → Option (Int × Bool)
  | [], n_1 =>
  (k n_1)
  | q_4 :: rest, n_1 =>
  (bif (decide (q_4.f1_Arity < (0 : Int))) then
  some (0, false)
  else
  (bif (decide (q_4.f1_Arity > (6 : Int))) then
  some (0, false)
  else
  (lf_terminate_count_L0 k rest (wr (n_1 + (wr ((1 : Int) + q_4.f1_Arity)))))))
noncomputable def lf_terminate_count (decls_a0 : (List S_api_Decl)) : Option (Int × Bool) :=
  (lf_terminate_count_L0 (fun n_3 =>
  some (n_3, true)) decls_a0 0)

set_option maxHeartbeats 1000000 in
theorem lg_terminate_count (decls_a0 : (List S_api_Decl)) (res : Int × Bool) (hr : lf_terminate_count decls_a0 = some res) : Gives Try.prog 23 [.lst (decls_a0.map enc_S_api_Decl)] (.tup [.int .i64 res.1, .bool res.2]) := by
  unfold lf_terminate_count at hr
  refine spec_env [(0, .lst (decls_a0.map enc_S_api_Decl))] Try.func23 rfl rfl fun K hK => ?_
  refine g_seq ?_
  refine g_run (by kernel_rfl) [(0, .d), (1, .d)] rfl ?_
  refine r_d rfl rfl rfl (s_assign rfl rfl) ?_
  refine r_d rfl rfl rfl (s_assign rfl rfl) ?_
  refine r_end ?_
  refine g_seq ?_
  refine g_run (by kernel_rfl) [(0, .d)] rfl ?_
  refine r_d rfl rfl rfl (s_assign rfl rfl) ?_
  refine r_end ?_
  refine g_seq ?_
  refine g_seq ?_
  refine g_run (by kernel_rfl) [(0, .d), (1, .d), (2, .d)] rfl ?_
  refine r_d rfl rfl rfl (s_move rfl rfl) ?_
  refine r_d rfl rfl rfl (m_len (f := enc_S_api_Decl) decls_a0 rfl el_L_api_Decl rfl (asl rfl)) ?_
  refine r_d rfl rfl rfl (s_move rfl rfl) ?_
  refine r_end ?_
  obtain ⟨kk0, hkk0, hr⟩ := exK (fun k => lf_terminate_count_L0 k decls_a0 0) hr
  refine g_len 0 rfl (asl rfl) fun hla0 => ?_
  simp only [List.length_map] at hla0
  refine g_blockJ (fun env σ => ∃ (n_3 : Int), env = [(4, .int .i64 n_3)] ∧ σ = [] ∧ kk0 n_3 = some res) ?_ (fun HK0 => ?_)
  ·
    rintro _ _ ⟨n_3, rfl, rfl, hr⟩
    rw [hkk0] at hr
    refine g_seq ?_
    refine g_run (by kernel_rfl) [(0, .d), (1, .d), (2, .d)] rfl ?_
    refine r_d rfl rfl rfl (s_move rfl rfl) ?_
    refine r_d rfl rfl rfl (s_assign rfl rfl) ?_
    refine r_d rfl rfl rfl (s_assign rfl rfl) ?_
    refine r_end ?_
    obtain rfl := Option.some.inj hr
    refine g_ret Try.func23 _ (.cons (resTmp rfl (Wk.refl _)) (.cons (resTmp rfl (Wk.refl _)) .nil)) ?_
    rfl
  ·
    refine g_sub [(7, .lst (decls_a0.map enc_S_api_Decl)), (8, .int .i64 (decls_a0.length : Int)), (4, .int .i64 0), (9, .int .i64 ((0 : Nat) : Int))] (Sub.cons' rfl (Sub.cons' rfl (Sub.cons' rfl (Sub.cons' rfl (Sub.nil _))))) ?_
    refine g_loop (fun n env σ => ∃ (n_1 : Int) (i_2 : Nat), (n = decls_a0.length - i_2) ∧ (env = [(7, .lst (decls_a0.map enc_S_api_Decl)), (8, .int .i64 (decls_a0.length : Int)), (4, .int .i64 n_1), (9, .int .i64 (i_2 : Int))]) ∧ (σ = []) ∧ (i_2 ≤ decls_a0.length) ∧ (lf_terminate_count_L0 kk0 (decls_a0.drop i_2) n_1 = some res)) _ ⟨0, 0, rfl, rfl, rfl, Nat.zero_le _, hr⟩ ?_
    rintro n _ _ ⟨n_1, i_2, rfl, rfl, rfl, hi0, hr⟩ IH0
    rcases listStep decls_a0 i_2 hi0 with ⟨ht0, hd0, he0⟩ | ⟨q_4, ht0, hd0, hq0, hlt0⟩
    ·
      rw [hd0, lf_terminate_count_L0] at hr
      refine g_seq ?_
      refine g_run (by kernel_rfl) [(0, .d)] rfl ?_
      refine r_d rfl rfl rfl (s_cmp rfl rfl rfl rfl) ?_
      refine r_end ?_
      refine g_seq ?_
      refine g_known 10 false rfl ht0 ?_
      refine g_condF rfl ?_
      refine g_exit rfl ?_
      refine g_sub [(4, .int .i64 n_1)] (Sub.cons' rfl (Sub.nil _)) ?_
      exact HK0 _ _ ⟨n_1, rfl, rfl, hr⟩
    ·
      rw [hd0, lf_terminate_count_L0] at hr
      refine g_seq ?_
      refine g_run (by kernel_rfl) [(0, .d)] rfl ?_
      refine r_d rfl rfl rfl (s_cmp rfl rfl rfl rfl) ?_
      refine r_end ?_
      refine g_seq ?_
      refine g_known 10 true rfl ht0 ?_
      refine g_condT rfl ?_
      refine g_skip ?_
      refine g_seq ?_
      refine g_block ?_
      refine g_seq ?_
      refine g_run (by kernel_rfl) [(0, .d), (1, .d), (2, .w), (3, .w)] rfl ?_
      refine r_d rfl rfl rfl (m_index (f := enc_S_api_Decl) decls_a0 rfl el_L_api_Decl rfl (asl rfl) rfl hq0 sz_S_api_Decl rfl) ?_
      refine r_d rfl rfl rfl (s_load rfl rfl (by exact ty_api_Decl) (sz_S_api_Decl _)) ?_
      refine r_w rfl rfl rfl (s_alloc rfl zv_api_Decl) ?_
      rintro _ _ ⟨b6_4, rfl, rfl⟩
      refine r_w01 rfl rfl rfl (t_store0 _ rfl rfl rfl (Wk.refl _) (pf0 _) (by exact ty_api_Decl) (sz_S_api_Decl _) rfl rfl) ?_
      refine r_end ?_
      refine g_freeze 6 b6_4 rfl (pf0 _) ?_
      refine g_seq ?_
      refine g_seq ?_
      refine g_run (by kernel_rfl) [(0, .d), (1, .d), (2, .d), (3, .d), (4, .d), (5, .d), (6, .d), (7, .d)] rfl ?_
      refine r_d rfl rfl rfl (s_fieldAddr rfl fl_api_Decl_1 rfl rfl rfl rfl) ?_
      refine r_d rfl rfl rfl (s_load rfl rfl (by exact ty_int) rfl) ?_
      refine r_d rfl rfl rfl (s_cmp rfl rfl rfl rfl) ?_
      refine r_d rfl rfl rfl (s_move rfl rfl) ?_
      refine r_sB 16 rfl hr (fun h16_5 hr => ?_) (fun h16_5 hr => ?_)
      ·
        refine r_skip rfl rfl rfl ?_
        refine r_skip rfl rfl rfl ?_
        refine r_skip rfl rfl rfl ?_
        refine r_d rfl rfl rfl (s_pickT rfl rfl rfl) ?_
        refine r_end ?_
        refine g_condT rfl ?_
        refine g_seq ?_
        refine g_run (by kernel_rfl) [(0, .d), (1, .d)] rfl ?_
        refine r_d rfl rfl rfl (s_assign rfl rfl) ?_
        refine r_d rfl rfl rfl (s_assign rfl rfl) ?_
        refine r_end ?_
        obtain rfl := Option.some.inj hr
        refine g_ret Try.func23 _ (.cons (resTmp rfl (Wk.refl _)) (.cons (resTmp rfl (Wk.refl _)) .nil)) ?_
        rfl
      ·
        refine r_d rfl rfl rfl (s_fieldAddr rfl fl_api_Decl_1 rfl rfl rfl rfl) ?_
        refine r_d rfl rfl rfl (s_load rfl rfl (by exact ty_int) rfl) ?_
        refine r_d rfl rfl rfl (s_cmp rfl rfl rfl rfl) ?_
        refine r_d rfl rfl rfl (s_pickF rfl rfl rfl) ?_
        refine r_end ?_
        refine g_sB 20 rfl hr (fun h20_6 hr => ?_) (fun h20_6 hr => ?_)
        ·
          refine g_condT rfl ?_
          refine g_seq ?_
          refine g_run (by kernel_rfl) [(0, .d), (1, .d)] rfl ?_
          refine r_d rfl rfl rfl (s_assign rfl rfl) ?_
          refine r_d rfl rfl rfl (s_assign rfl rfl) ?_
          refine r_end ?_
          obtain rfl := Option.some.inj hr
          refine g_ret Try.func23 _ (.cons (resTmp rfl (Wk.refl _)) (.cons (resTmp rfl (Wk.refl _)) .nil)) ?_
          rfl
        ·
          refine g_condF rfl ?_
          refine g_skip ?_
          refine g_run (by kernel_rfl) [(0, .d), (1, .d), (2, .d), (3, .d), (4, .d), (5, .d)] rfl ?_
          refine r_d rfl rfl rfl (s_move rfl rfl) ?_
          refine r_d rfl rfl rfl (s_fieldAddr rfl fl_api_Decl_1 rfl rfl rfl rfl) ?_
          refine r_d rfl rfl rfl (s_load rfl rfl (by exact ty_int) rfl) ?_
          refine r_d rfl rfl rfl (s_arW rfl rfl rfl rfl) ?_
          refine r_d rfl rfl rfl (s_arW rfl rfl rfl rfl) ?_
          refine r_d rfl rfl rfl (s_assign rfl rfl) ?_
          refine r_end ?_
          refine g_inBlock ?_
          refine g_run (by kernel_rfl) [(0, .d), (1, .d)] rfl ?_
          refine r_d rfl rfl rfl (s_ar (r := ((i_2 + 1 : Nat) : Int)) rfl rfl rfl (by simp [iar]) (by omega)) ?_
          refine r_d rfl rfl rfl (s_move rfl rfl) ?_
          refine r_end ?_
          refine g_sub [(7, .lst (decls_a0.map enc_S_api_Decl)), (8, .int .i64 (decls_a0.length : Int)), (4, .int .i64 (wr (n_1 + (wr ((1 : Int) + q_4.f1_Arity))))), (9, .int .i64 ((i_2 + 1 : Nat) : Int))] (Sub.cons' rfl (Sub.cons' rfl (Sub.cons' rfl (Sub.cons' rfl (Sub.nil _))))) ?_
          exact IH0 _ _ _ (by omega) ⟨(wr (n_1 + (wr ((1 : Int) + q_4.f1_Arity)))), (i_2 + 1), rfl, rfl, rfl, (by omega), hr⟩

noncomputable def lf_terminate_Ranks_1_s1 (c_0 : (List Int)) : Option (Int × (List Int)) :=
  (bif ((c_0.length : Int) == (0 : Int)) then
  some (0, c_0)
  else
  ((getI c_0 0).bind fun q_2 =>
  ((subO c_0 1 (c_0.length : Int)).bind fun l_3 =>
  some (q_2, l_3))))

set_option maxHeartbeats 1000000 in
theorem lg_terminate_Ranks_1_s1 (c_0 : (List Int)) (b_o0 : Nat) (res : Int × (List Int)) (hr : lf_terminate_Ranks_1_s1 c_0 = some res) : Spec Try.prog 28 [.ref b_o0 0 []] [.cell b_o0 (.lst (c_0.map (D.int .i64)))] (fun d σ => d = .int .i64 res.1 ∧ σ = [.cell b_o0 (.lst (res.2.map (D.int .i64)))]) := by
  unfold lf_terminate_Ranks_1_s1 at hr
  refine spec_env [(0, .ref b_o0 0 [])] Try.func28 rfl rfl fun K hK => ?_
  refine g_seq ?_
  refine g_run (by kernel_rfl) [(0, .d)] rfl ?_
  refine r_d rfl rfl rfl (s_assign rfl rfl) ?_
  refine r_end ?_
  refine g_seq ?_
  refine g_seq ?_
  refine g_run (by kernel_rfl) [(0, .r), (1, .d), (2, .d)] rfl ?_
  refine r_r rfl rfl rfl (t_loadRef rfl rfl (.head _) rfl rfl (by exact ty_L_int) rfl) ?_
  refine r_d rfl rfl rfl (m_len (f := (D.int .i64)) c_0 rfl el_L_int rfl (asl rfl)) ?_
  refine r_d rfl rfl rfl (s_cmp rfl rfl rfl rfl) ?_
  refine r_end ?_
  refine g_sB 5 rfl hr (fun h5_0 hr => ?_) (fun h5_0 hr => ?_)
  ·
    refine g_condT rfl ?_
    refine g_seq ?_
    refine g_run (by kernel_rfl) [(0, .d)] rfl ?_
    refine r_d rfl rfl rfl (s_assign rfl rfl) ?_
    refine r_end ?_
    obtain rfl := Option.some.inj hr
    refine g_ret Try.func28 _ (.cons (resTmp rfl (Wk.refl _)) .nil) ?_
    exact ⟨rfl, rfl⟩
  ·
    refine g_condF rfl ?_
    refine g_skip ?_
    refine g_seq ?_
    refine g_run (by kernel_rfl) [(0, .r), (1, .d), (2, .d), (3, .d)] rfl ?_
    refine r_r rfl rfl rfl (t_loadRef rfl rfl (.head _) rfl rfl (by exact ty_L_int) rfl) ?_
    obtain ⟨q_2, hq_2, hr⟩ := bindS hr
    refine r_d rfl rfl rfl (m_index (f := (D.int .i64)) c_0 rfl el_L_int rfl (asl rfl) rfl hq_2 (fun _ => rfl) rfl) ?_
    refine r_d rfl rfl rfl (s_load rfl rfl (by exact ty_int) rfl) ?_
    refine r_d rfl rfl rfl (s_assign rfl rfl) ?_
    refine r_end ?_
    refine g_seq ?_
    refine g_run (by kernel_rfl) [(0, .r), (1, .d), (2, .w)] rfl ?_
    refine r_r rfl rfl rfl (t_loadRef rfl rfl (.head _) rfl rfl (by exact ty_L_int) rfl) ?_
    obtain ⟨l_3, hl_3, hr⟩ := bindS hr
    refine r_d rfl rfl rfl (m_sub (f := (D.int .i64)) c_0 1 (c_0.length : Int) rfl el_L_int rfl (asl rfl) (bl_some rfl) bh_none (fun _ => rfl) hl_3) ?_
    refine r_w01 rfl rfl rfl (t_store0 _ rfl rfl rfl (Wk.refl _) (pf0 _) (by exact ty_L_int) rfl rfl rfl) ?_
    refine r_end ?_
    refine g_seq ?_
    refine g_run (by kernel_rfl) [(0, .d), (1, .d)] rfl ?_
    refine r_d rfl rfl rfl (s_move rfl rfl) ?_
    refine r_d rfl rfl rfl (s_assign rfl rfl) ?_
    refine r_end ?_
    obtain rfl := Option.some.inj hr
    refine g_ret Try.func28 _ (.cons (resTmp rfl (Wk.refl _)) .nil) ?_
    exact ⟨rfl, rfl⟩

noncomputable def lf_terminate_Ranks_L1 (k : ((List Int)) → (ByteArray) → (Int) → ((List Int)) → Option ((List S_api_Rank))) : Nat → (List Int) → ByteArray → Int → (List Int) → Option ((List S_api_Rank))
  | 0, decls_17, r_18, r_19, r_20 =>
  (k decls_17 r_18 r_19 r_20)
  | rest + 1, decls_17, r_18, r_19, r_20 =>
  ((lf_terminate_Ranks_1_s1 decls_17).bind fun r_30 =>
  ((appO 8 r_20 [r_30.1]).bind fun l_31 =>
  (lf_terminate_Ranks_L1 k rest r_30.2 r_18 r_19 l_31)))

noncomputable def lf_terminate_Ranks_L0 (k : ((List S_api_Rank)) → Option ((List S_api_Rank))) : List S_api_Decl → (List S_api_Rank) → (List Int) → Option ((List S_api_Rank))
  | [], out_5, digits_7 =>
  (k out_5)
  | q_10 :: rest, out_5, digits_7 =>
  ((lf_terminate_Ranks_1_s1 digits_7).bind fun r_13 =>
  (lf_terminate_Ranks_L1 (fun decls_22 r_24 r_25 r_26 =>
  ((appO 48 out_5 [(⟨r_24, r_25, r_26⟩ : S_api_Rank)]).bind fun l_27 =>
  (lf_terminate_Ranks_L0 k rest l_27 decls_22))) ((min64 (max64 q_10.f1_Arity (0 : Int)) (6 : Int)) - 0).toNat r_13.2 q_10.f0_Name r_13.1 []))
noncomputable def lf_terminate_Ranks (decls_a0 : (List S_api_Decl)) (digits_a1 : (List Int)) : Option ((List S_api_Rank)) :=
  (lf_terminate_Ranks_L0 (fun out_9 =>
  some (out_9)) decls_a0 [] digits_a1)

set_option maxHeartbeats 1000000 in
theorem lg_terminate_Ranks (decls_a0 : (List S_api_Decl)) (digits_a1 : (List Int)) (res : (List S_api_Rank)) (hr : lf_terminate_Ranks decls_a0 digits_a1 = some res) : Gives Try.prog 15 [.lst (decls_a0.map enc_S_api_Decl), .lst (digits_a1.map (D.int .i64))] (.lst (res.map enc_S_api_Rank)) := by
  unfold lf_terminate_Ranks at hr
  refine spec_env [(0, .lst (decls_a0.map enc_S_api_Decl)), (1, .lst (digits_a1.map (D.int .i64)))] Try.func15 rfl rfl fun K hK => ?_
  refine g_seq ?_
  refine g_run (by kernel_rfl) [(0, .w), (1, .w)] rfl ?_
  refine r_w rfl rfl rfl (s_boxRef rfl rfl rfl) ?_
  rintro _ _ ⟨b3_0, rfl, rfl⟩
  refine r_w rfl rfl rfl (s_nilOwn 56 3 (.inl rfl)) ?_
  rintro _ _ ⟨u4_1, rfl, rfl⟩
  refine r_end ?_
  refine g_seq ?_
  refine g_run (by kernel_rfl) [(0, .w)] rfl ?_
  refine r_w rfl rfl rfl (s_nilOwn 56 3 (.inl rfl)) ?_
  rintro _ _ ⟨u5_2, rfl, rfl⟩
  refine r_end ?_
  refine g_seq ?_
  refine g_run (by kernel_rfl) [(0, .d), (1, .d)] rfl ?_
  refine r_d rfl rfl rfl (s_makeFunc rfl rfl rfl) ?_
  refine r_d rfl rfl rfl (s_assign rfl rfl) ?_
  refine r_end ?_
  refine g_seq ?_
  refine g_seq ?_
  refine g_run (by kernel_rfl) [(0, .d), (1, .d), (2, .d)] rfl ?_
  refine r_d rfl rfl rfl (s_move rfl rfl) ?_
  refine r_d rfl rfl rfl (m_len (f := enc_S_api_Decl) decls_a0 rfl el_L_api_Decl rfl (asl rfl)) ?_
  refine r_d rfl rfl rfl (s_move rfl rfl) ?_
  refine r_end ?_
  obtain ⟨kk0, hkk0, hr⟩ := exK (fun k => lf_terminate_Ranks_L0 k decls_a0 [] digits_a1) hr
  refine g_len 0 rfl (asl rfl) fun hla0 => ?_
  simp only [List.length_map] at hla0
  refine g_blockJ (fun env σ => ∃ (out_9 : (List S_api_Rank)) (u_8 : Value), env = [(5, .own u_8 (out_9.map enc_S_api_Rank))] ∧ σ = [.row u_8 out_9.length 56 3] ∧ kk0 out_9 = some res) ?_ (fun HK0 => ?_)
  ·
    rintro _ _ ⟨out_9, u_8, rfl, rfl, hr⟩
    rw [hkk0] at hr
    refine g_seq ?_
    refine g_run (by kernel_rfl) [(0, .d), (1, .d)] rfl ?_
    refine r_d rfl rfl rfl (s_move rfl rfl) ?_
    refine r_d rfl rfl rfl (s_assign rfl rfl) ?_
    refine r_end ?_
    obtain rfl := Option.some.inj hr
    refine g_ret Try.func15 _ (.cons (resTmp rfl (Wk.own _ _)) .nil) ?_
    rfl
  ·
    refine g_sub [(6, .clo (.func 28) [] [.ref b3_0 0 []]), (11, .lst (decls_a0.map enc_S_api_Decl)), (12, .int .i64 (decls_a0.length : Int)), (5, .own u5_2 ([].map enc_S_api_Rank)), (13, .int .i64 ((0 : Nat) : Int))] (Sub.cons' rfl (Sub.cons' rfl (Sub.cons' rfl (Sub.cons' rfl (Sub.cons' rfl (Sub.nil _)))))) ?_
    refine g_perm [_, _] _ ((pf0 _).trans (pf2 _ _ _ _)) ?_
    refine g_loop (fun n env σ => ∃ (out_5 : (List S_api_Rank)) (i_6 : Nat) (digits_7 : (List Int)) (u_4 : Value), (n = decls_a0.length - i_6) ∧ (env = [(6, .clo (.func 28) [] [.ref b3_0 0 []]), (11, .lst (decls_a0.map enc_S_api_Decl)), (12, .int .i64 (decls_a0.length : Int)), (5, .own u_4 (out_5.map enc_S_api_Rank)), (13, .int .i64 (i_6 : Int))]) ∧ (σ = [.cell b3_0 (.lst (digits_7.map (D.int .i64))), .row u_4 out_5.length 56 3]) ∧ (i_6 ≤ decls_a0.length) ∧ (lf_terminate_Ranks_L0 kk0 (decls_a0.drop i_6) out_5 digits_7 = some res)) _ ⟨[], 0, digits_a1, u5_2, rfl, rfl, rfl, Nat.zero_le _, hr⟩ ?_
    rintro n _ _ ⟨out_5, i_6, digits_7, u_4, rfl, rfl, rfl, hi0, hr⟩ IH0
    rcases listStep decls_a0 i_6 hi0 with ⟨ht0, hd0, he0⟩ | ⟨q_10, ht0, hd0, hq0, hlt0⟩
    ·
      rw [hd0, lf_terminate_Ranks_L0] at hr
      refine g_seq ?_
      refine g_run (by kernel_rfl) [(0, .d)] rfl ?_
      refine r_d rfl rfl rfl (s_cmp rfl rfl rfl rfl) ?_
      refine r_end ?_
      refine g_seq ?_
      refine g_known 14 false rfl ht0 ?_
      refine g_condF rfl ?_
      refine g_exit rfl ?_
      refine g_sub [(5, .own u_4 (out_5.map enc_S_api_Rank))] (Sub.cons' rfl (Sub.nil _)) ?_
      refine g_perm [_] _ (pf1 _ _ _) ?_
      exact HK0 _ _ ⟨out_5, u_4, rfl, rfl, hr⟩
    ·
      rw [hd0, lf_terminate_Ranks_L0] at hr
      refine g_seq ?_
      refine g_run (by kernel_rfl) [(0, .d)] rfl ?_
      refine r_d rfl rfl rfl (s_cmp rfl rfl rfl rfl) ?_
      refine r_end ?_
      refine g_seq ?_
      refine g_known 14 true rfl ht0 ?_
      refine g_condT rfl ?_
      refine g_skip ?_
      refine g_seq ?_
      refine g_block ?_
      refine g_seq ?_
      refine g_run (by kernel_rfl) [(0, .d), (1, .d), (2, .w), (3, .w)] rfl ?_
      refine r_d rfl rfl rfl (m_index (f := enc_S_api_Decl) decls_a0 rfl el_L_api_Decl rfl (asl rfl) rfl hq0 sz_S_api_Decl rfl) ?_
      refine r_d rfl rfl rfl (s_load rfl rfl (by exact ty_api_Decl) (sz_S_api_Decl _)) ?_
      refine r_w rfl rfl rfl (s_alloc rfl zv_api_Decl) ?_
      rintro _ _ ⟨b8_10, rfl, rfl⟩
      refine r_w01 rfl rfl rfl (t_store0 _ rfl rfl rfl (Wk.refl _) (pf0 _) (by exact ty_api_Decl) (sz_S_api_Decl _) rfl rfl) ?_
      refine r_end ?_
      refine g_freeze 8 b8_10 rfl (pf0 _) ?_
      refine g_seq ?_
      refine g_nilRow 3 1 ?_
      obtain ⟨r_13, hr_13, hr⟩ := bindS hr
      refine g_two (by kernel_rfl) (by kernel_rfl) [(0, .d), (1, .d), (2, .d)] [(3, .x), (4, .d), (5, .w), (6, .w)] [(5, .x), (3, .w), (4, .d), (6, .w)] (by kernel_rfl) (fun env σ => ∃ (b9_r6_11 : Nat), Sub [(5, .own u_4 (out_5.map enc_S_api_Rank)), (6, .clo (.func 28) [] [.ref b3_0 0 []]), (8, .ptr (enc_S_api_Decl q_10)), (9, .ref b9_r6_11 0 []), (11, .lst (decls_a0.map enc_S_api_Decl)), (12, .int .i64 (decls_a0.length : Int)), (13, .int .i64 (i_6 : Int))] env ∧ σ.Perm [.cell b9_r6_11 (.agg [.str q_10.f0_Name, .int .i64 r_13.1, .own (.slice none 0 0 ) ([].map (D.int .i64))]), .cell b3_0 (.lst (r_13.2.map (D.int .i64))), .row (.slice none 0 0 ) ([] : List D).length 3 1, .row u_4 out_5.length 56 3]) ?_ ?_
      ·
        refine r_d rfl rfl rfl (s_fieldAddr rfl fl_api_Decl_0 rfl rfl rfl rfl) ?_
        refine r_d rfl rfl rfl (s_load rfl rfl (by exact ty_string) rfl) ?_
        refine r_d rfl rfl rfl (s_move rfl rfl) ?_
        refine r_end ⟨?_, ?_⟩
        ·
          refine r_x rfl rfl rfl (s_callV _ rfl rfl cl_terminate_Ranks_1 .nil rfl (by exact (pf1 _ _ _)) (lg_terminate_Ranks_1_s1 _ _ _ hr_13)) ?_
          rintro _ _ ⟨_, ⟨rfl, rfl⟩, rfl⟩
          refine r_st ((.cell b3_0 (.lst (r_13.2.map (D.int .i64)))) :: _) rfl ?_
          refine r_d rfl rfl rfl (s_build rfl bo_api_Rank_2 (.cons rfl (Wk.refl _) (.cons rfl (Wk.refl _) .nil)) (.cons rfl rfl rfl (.cons rfl rfl rfl (.nil _)))) ?_
          refine r_w rfl rfl rfl (s_alloc rfl zv_api_Rank) ?_
          rintro _ _ ⟨b9_r6_11, rfl, rfl⟩
          refine r_w01 rfl rfl rfl (t_store0 _ rfl rfl rfl (Wk.refl _) (pf0 _) (by exact ty_api_Rank) rfl rfl rfl) ?_
          refine r_end ?_
          exact ⟨b9_r6_11, (Sub.cons' rfl (Sub.cons' rfl (Sub.cons' rfl (Sub.cons' rfl (Sub.cons' rfl (Sub.cons' rfl (Sub.cons' rfl (Sub.nil _)))))))), ((((pf3 _ _ _ _ _).trans (pf3 _ _ _ _ _)).trans (pf3 _ _ _ _ _)).trans (pf3 _ _ _ _ _))⟩
        ·
          refine r_x rfl rfl rfl (s_alloc rfl zv_api_Rank) ?_
          rintro _ _ ⟨b9_r6_11, rfl, rfl⟩
          refine r_w rfl rfl rfl (s_callV _ rfl rfl cl_terminate_Ranks_1 .nil rfl (by exact (pf2 _ _ _ _)) (lg_terminate_Ranks_1_s1 _ _ _ hr_13)) ?_
          rintro _ _ ⟨_, ⟨rfl, rfl⟩, rfl⟩
          refine r_st ((.cell b3_0 (.lst (r_13.2.map (D.int .i64)))) :: _) rfl ?_
          refine r_d rfl rfl rfl (s_build rfl bo_api_Rank_2 (.cons rfl (Wk.refl _) (.cons rfl (Wk.refl _) .nil)) (.cons rfl rfl rfl (.cons rfl rfl rfl (.nil _)))) ?_
          refine r_w01 rfl rfl rfl (t_store0 _ rfl rfl rfl (Wk.refl _) (pf1 _ _ _) (by exact ty_api_Rank) rfl rfl rfl) ?_
          refine r_end ?_
          exact ⟨b9_r6_11, (Sub.cons' rfl (Sub.cons' rfl (Sub.cons' rfl (Sub.cons' rfl (Sub.cons' rfl (Sub.cons' rfl (Sub.cons' rfl (Sub.nil _)))))))), ((((pf3 _ _ _ _ _).trans (pf3 _ _ _ _ _)).trans (pf3 _ _ _ _ _)).trans (pf3 _ _ _ _ _))⟩
      ·
        rintro _ _ ⟨b9_r6_11, hs, hp⟩
        refine g_ends hs hp ?_
        refine g_seq ?_
        refine g_seq ?_
        refine g_run (by kernel_rfl) [(0, .d), (1, .d), (2, .d), (3, .d), (4, .d)] rfl ?_
        refine r_d rfl rfl rfl (s_fieldAddr rfl fl_api_Decl_1 rfl rfl rfl rfl) ?_
        refine r_d rfl rfl rfl (s_load rfl rfl (by exact ty_int) rfl) ?_
        refine r_d rfl rfl rfl (s_max rfl rfl rfl) ?_
        refine r_d rfl rfl rfl (s_min rfl rfl rfl) ?_
        refine r_d rfl rfl rfl (s_move rfl rfl) ?_
        refine r_end ?_
        obtain ⟨kk1, hkk1, hr⟩ := exK (fun k => lf_terminate_Ranks_L1 k ((min64 (max64 q_10.f1_Arity (0 : Int)) (6 : Int)) - 0).toNat r_13.2 q_10.f0_Name r_13.1 []) hr
        refine g_int 25 rfl fun hla1 => ?_
        refine g_blockJ (fun env σ => ∃ (decls_22 : (List Int)) (r_24 : ByteArray) (r_25 : Int) (r_26 : (List Int)) (u_21 : Value) (u_23 : Value), env = [(5, .own u_21 (out_5.map enc_S_api_Rank)), (6, .clo (.func 28) [] [.ref b3_0 0 []]), (9, .ref b9_r6_11 0 []), (11, .lst (decls_a0.map enc_S_api_Decl)), (12, .int .i64 (decls_a0.length : Int)), (13, .int .i64 (i_6 : Int))] ∧ σ = [.row u_21 out_5.length 56 3, .cell b3_0 (.lst (decls_22.map (D.int .i64))), .cell b9_r6_11 (.agg [.str r_24, .int .i64 r_25, .own u_23 (r_26.map (D.int .i64))]), .row u_23 r_26.length 3 1] ∧ kk1 decls_22 r_24 r_25 r_26 = some res) ?_ (fun HK1 => ?_)
        ·
          rintro _ _ ⟨decls_22, r_24, r_25, r_26, u_21, u_23, rfl, rfl, hr⟩
          rw [hkk1] at hr
          refine g_run (by kernel_rfl) [(0, .d), (1, .r), (2, .d), (3, .w), (4, .d)] rfl ?_
          refine r_d rfl rfl rfl (s_move rfl rfl) ?_
          refine r_r rfl rfl rfl (t_loadRef rfl rfl (.tail _ (.tail _ (.head _))) rfl rfl (by exact ty_api_Rank) rfl) ?_
          refine r_d rfl rfl rfl (m_lit (f := enc_S_api_Rank) [.tmp 37] [(⟨r_24, r_25, r_26⟩ : S_api_Rank)] rfl el_L_api_Rank rfl rfl (by decide) (by decide) (.cons rfl (Wk.agg (.cons (Wk.refl _) (.cons (Wk.refl _) (.cons (Wk.own _ _) .nil)))) .nil) sz_S_api_Rank (fun _ => rfl)) ?_
          obtain ⟨l_27, hl_27, hr⟩ := bindS hr
          refine r_w rfl rfl rfl (m_appOwn (f := enc_S_api_Rank) out_5 [(⟨r_24, r_25, r_26⟩ : S_api_Rank)] rfl el_L_api_Rank rfl rfl (asl rfl) (pf0 _) rfl sz_S_api_Rank hl_27) ?_
          rintro _ _ ⟨u39_27, rfl, rfl⟩
          refine r_d rfl rfl rfl (s_assign rfl rfl) ?_
          refine r_end ?_
          refine g_inBlock ?_
          refine g_run (by kernel_rfl) [(0, .d), (1, .d)] rfl ?_
          refine r_d rfl rfl rfl (s_ar (r := ((i_6 + 1 : Nat) : Int)) rfl rfl rfl (by simp [iar]) (by omega)) ?_
          refine r_d rfl rfl rfl (s_move rfl rfl) ?_
          refine r_end ?_
          refine g_sub [(6, .clo (.func 28) [] [.ref b3_0 0 []]), (11, .lst (decls_a0.map enc_S_api_Decl)), (12, .int .i64 (decls_a0.length : Int)), (5, .own u39_27 (l_27.map enc_S_api_Rank)), (13, .int .i64 ((i_6 + 1 : Nat) : Int))] (Sub.cons' rfl (Sub.cons' rfl (Sub.cons' rfl (Sub.cons' rfl (Sub.cons' rfl (Sub.nil _)))))) ?_
          refine g_perm [_, _] _ ((pf0 _).trans (pf1 _ _ _)) ?_
          exact IH0 _ _ _ (by omega) ⟨l_27, (i_6 + 1), decls_22, u39_27, rfl, rfl, rfl, (by omega), hr⟩
        ·
          refine g_sub [(5, .own u_4 (out_5.map enc_S_api_Rank)), (6, .clo (.func 28) [] [.ref b3_0 0 []]), (9, .ref b9_r6_11 0 []), (11, .lst (decls_a0.map enc_S_api_Decl)), (12, .int .i64 (decls_a0.length : Int)), (13, .int .i64 ((i_6 : Nat) : Int)), (25, .int .i64 (min64 (max64 q_10.f1_Arity (0 : Int)) (6 : Int))), (26, .int .i64 0)] (Sub.cons' rfl (Sub.cons' rfl (Sub.cons' rfl (Sub.cons' rfl (Sub.cons' rfl (Sub.cons' rfl (Sub.cons' rfl (Sub.cons' rfl (Sub.nil _))))))))) ?_
          refine g_perm [_, _, _, _] _ ((((pf2 _ _ _ _).trans (pf1 _ _ _)).trans (pf2 _ _ _ _)).trans (pf3 _ _ _ _ _)) ?_
          refine g_loop (fun n env σ => ∃ (t26_16 : Int) (decls_17 : (List Int)) (r_18 : ByteArray) (r_19 : Int) (r_20 : (List Int)) (u_14 : Value) (u_15 : Value) (m1 : Nat), (m1 = n) ∧ (env = [(5, .own u_14 (out_5.map enc_S_api_Rank)), (6, .clo (.func 28) [] [.ref b3_0 0 []]), (9, .ref b9_r6_11 0 []), (11, .lst (decls_a0.map enc_S_api_Decl)), (12, .int .i64 (decls_a0.length : Int)), (13, .int .i64 (i_6 : Int)), (25, .int .i64 (min64 (max64 q_10.f1_Arity (0 : Int)) (6 : Int))), (26, .int .i64 t26_16)]) ∧ (σ = [.row u_14 out_5.length 56 3, .cell b3_0 (.lst (decls_17.map (D.int .i64))), .cell b9_r6_11 (.agg [.str r_18, .int .i64 r_19, .own u_15 (r_20.map (D.int .i64))]), .row u_15 r_20.length 3 1]) ∧ (m1 = ((min64 (max64 q_10.f1_Arity (0 : Int)) (6 : Int)) - t26_16).toNat) ∧ (lf_terminate_Ranks_L1 kk1 m1 decls_17 r_18 r_19 r_20 = some res)) _ ⟨0, r_13.2, q_10.f0_Name, r_13.1, [], u_4, (.slice none 0 0 ), _, rfl, rfl, rfl, rfl, hr⟩ ?_
          rintro n _ _ ⟨t26_16, decls_17, r_18, r_19, r_20, u_14, u_15, m1, rfl, rfl, rfl, hi1, hr⟩ IH1
          refine g_int 26 rfl fun hb1 => ?_
          rcases cntStep t26_16 (min64 (max64 q_10.f1_Arity (0 : Int)) (6 : Int)) m1 hi1 with ⟨hm1, ht1⟩ | ⟨m1', hm1, ht1, hi1', hlt1⟩
          ·
            rw [hm1, lf_terminate_Ranks_L1] at hr
            refine g_seq ?_
            refine g_run (by kernel_rfl) [(0, .d)] rfl ?_
            refine r_d rfl rfl rfl (s_cmp rfl rfl rfl rfl) ?_
            refine r_end ?_
            refine g_seq ?_
            refine g_known 27 false rfl ht1 ?_
            refine g_condF rfl ?_
            refine g_exit rfl ?_
            refine g_sub [(5, .own u_14 (out_5.map enc_S_api_Rank)), (6, .clo (.func 28) [] [.ref b3_0 0 []]), (9, .ref b9_r6_11 0 []), (11, .lst (decls_a0.map enc_S_api_Decl)), (12, .int .i64 (decls_a0.length : Int)), (13, .int .i64 (i_6 : Int))] (Sub.cons' rfl (Sub.cons' rfl (Sub.cons' rfl (Sub.cons' rfl (Sub.cons' rfl (Sub.cons' rfl (Sub.nil _))))))) ?_
            exact HK1 _ _ ⟨decls_17, r_18, r_19, r_20, u_14, u_15, rfl, rfl, hr⟩
          ·
            rw [hm1, lf_terminate_Ranks_L1] at hr
            refine g_seq ?_
            refine g_run (by kernel_rfl) [(0, .d)] rfl ?_
            refine r_d rfl rfl rfl (s_cmp rfl rfl rfl rfl) ?_
            refine r_end ?_
            refine g_seq ?_
            refine g_known 27 true rfl ht1 ?_
            refine g_condT rfl ?_
            refine g_skip ?_
            refine g_seq ?_
            refine g_block ?_
            obtain ⟨r_30, hr_30, hr⟩ := bindS hr
            obtain ⟨l_31, hl_31, hr⟩ := bindS hr
            refine g_two (by kernel_rfl) (by kernel_rfl) [(0, .d), (2, .d)] [(1, .x), (3, .w), (4, .d), (5, .w), (6, .d), (7, .w)] [(3, .x), (4, .d), (1, .w), (5, .w), (6, .d), (7, .w)] (by kernel_rfl) (fun env σ => ∃ (u33_r9_28 : Value), Sub [(5, .own u_14 (out_5.map enc_S_api_Rank)), (6, .clo (.func 28) [] [.ref b3_0 0 []]), (9, .ref b9_r6_11 0 []), (11, .lst (decls_a0.map enc_S_api_Decl)), (12, .int .i64 (decls_a0.length : Int)), (13, .int .i64 (i_6 : Int)), (25, .int .i64 (min64 (max64 q_10.f1_Arity (0 : Int)) (6 : Int))), (26, .int .i64 t26_16)] env ∧ σ.Perm [.cell b9_r6_11 (.agg [.str r_18, .int .i64 r_19, .own u33_r9_28 (l_31.map (D.int .i64))]), .row u33_r9_28 l_31.length 3 1, .cell b3_0 (.lst (r_30.2.map (D.int .i64))), .row u_14 out_5.length 56 3]) ?_ ?_
            ·
              refine r_d rfl rfl rfl (s_fieldRef rfl fl_api_Rank_2 rfl) ?_
              refine r_d rfl rfl rfl (s_move rfl rfl) ?_
              refine r_end ⟨?_, ?_⟩
              ·
                refine r_xr rfl rfl rfl (t_loadRef rfl rfl (.tail _ (.tail _ (.head _))) rfl rfl (by exact ty_L_int) rfl) ?_
                refine r_w rfl rfl rfl (s_callV _ rfl rfl cl_terminate_Ranks_1 .nil rfl (by exact (pf1 _ _ _)) (lg_terminate_Ranks_1_s1 _ _ _ hr_30)) ?_
                rintro _ _ ⟨_, ⟨rfl, rfl⟩, rfl⟩
                refine r_st ((.cell b3_0 (.lst (r_30.2.map (D.int .i64)))) :: _) rfl ?_
                refine r_d rfl rfl rfl (m_lit (f := (D.int .i64)) [.tmp 31] [r_30.1] rfl el_L_int rfl rfl (by decide) (by decide) (.cons rfl (Wk.refl _) .nil) (fun _ => rfl) (fun _ => rfl)) ?_
                refine r_w rfl rfl rfl (m_appOwn (f := (D.int .i64)) r_20 [r_30.1] rfl el_L_int rfl rfl (asl rfl) (pf3 _ _ _ _ _) rfl (fun _ => rfl) hl_31) ?_
                rintro _ _ ⟨u33_r9_28, rfl, rfl⟩
                refine r_d rfl rfl rfl (s_fieldRef rfl fl_api_Rank_2 rfl) ?_
                refine r_w01 rfl rfl rfl (t_store _ rfl rfl rfl (Wk.refl _) (pf3 _ _ _ _ _) rfl rfl (by exact ty_L_int) rfl rfl rfl) ?_
                refine r_end ?_
                exact ⟨u33_r9_28, (Sub.cons' rfl (Sub.cons' rfl (Sub.cons' rfl (Sub.cons' rfl (Sub.cons' rfl (Sub.cons' rfl (Sub.cons' rfl (Sub.cons' rfl (Sub.nil _))))))))), ((((pf3 _ _ _ _ _).trans (pf3 _ _ _ _ _)).trans (pf3 _ _ _ _ _)).trans (pf3 _ _ _ _ _))⟩
              ·
                refine r_x rfl rfl rfl (s_callV _ rfl rfl cl_terminate_Ranks_1 .nil rfl (by exact (pf1 _ _ _)) (lg_terminate_Ranks_1_s1 _ _ _ hr_30)) ?_
                rintro _ _ ⟨_, ⟨rfl, rfl⟩, rfl⟩
                refine r_st ((.cell b3_0 (.lst (r_30.2.map (D.int .i64)))) :: _) rfl ?_
                refine r_d rfl rfl rfl (m_lit (f := (D.int .i64)) [.tmp 31] [r_30.1] rfl el_L_int rfl rfl (by decide) (by decide) (.cons rfl (Wk.refl _) .nil) (fun _ => rfl) (fun _ => rfl)) ?_
                refine r_wr rfl rfl rfl (t_loadRef rfl rfl (.tail _ (.tail _ (.head _))) rfl rfl (by exact ty_L_int) rfl) ?_
                refine r_w rfl rfl rfl (m_appOwn (f := (D.int .i64)) r_20 [r_30.1] rfl el_L_int rfl rfl (asl rfl) (pf3 _ _ _ _ _) rfl (fun _ => rfl) hl_31) ?_
                rintro _ _ ⟨u33_r9_28, rfl, rfl⟩
                refine r_d rfl rfl rfl (s_fieldRef rfl fl_api_Rank_2 rfl) ?_
                refine r_w01 rfl rfl rfl (t_store _ rfl rfl rfl (Wk.refl _) (pf3 _ _ _ _ _) rfl rfl (by exact ty_L_int) rfl rfl rfl) ?_
                refine r_end ?_
                exact ⟨u33_r9_28, (Sub.cons' rfl (Sub.cons' rfl (Sub.cons' rfl (Sub.cons' rfl (Sub.cons' rfl (Sub.cons' rfl (Sub.cons' rfl (Sub.cons' rfl (Sub.nil _))))))))), ((((pf3 _ _ _ _ _).trans (pf3 _ _ _ _ _)).trans (pf3 _ _ _ _ _)).trans (pf3 _ _ _ _ _))⟩
            ·
              rintro _ _ ⟨u33_r9_28, hs, hp⟩
              refine g_ends hs hp ?_
              refine g_inBlock ?_
              refine g_run (by kernel_rfl) [(0, .d), (1, .d)] rfl ?_
              refine r_d rfl rfl rfl (s_ar (r := t26_16 + 1) rfl rfl rfl rfl (by omega)) ?_
              refine r_d rfl rfl rfl (s_move rfl rfl) ?_
              refine r_end ?_
              refine g_sub [(5, .own u_14 (out_5.map enc_S_api_Rank)), (6, .clo (.func 28) [] [.ref b3_0 0 []]), (9, .ref b9_r6_11 0 []), (11, .lst (decls_a0.map enc_S_api_Decl)), (12, .int .i64 (decls_a0.length : Int)), (13, .int .i64 ((i_6 : Nat) : Int)), (25, .int .i64 (min64 (max64 q_10.f1_Arity (0 : Int)) (6 : Int))), (26, .int .i64 (t26_16 + 1))] (Sub.cons' rfl (Sub.cons' rfl (Sub.cons' rfl (Sub.cons' rfl (Sub.cons' rfl (Sub.cons' rfl (Sub.cons' rfl (Sub.cons' rfl (Sub.nil _))))))))) ?_
              refine g_perm [_, _, _, _] _ ((((pf1 _ _ _).trans (pf1 _ _ _)).trans (pf2 _ _ _ _)).trans (pf3 _ _ _ _ _)) ?_
              exact IH1 _ _ _ (by omega) ⟨(t26_16 + 1), r_30.2, r_18, r_19, l_31, u_14, u33_r9_28, _, rfl, rfl, rfl, hi1', hr⟩

noncomputable def lf_terminate_Next_1 (n_a0 : Int) (t1_a1 : Int) : Option (Bool) :=
  (bif (decide (n_a0 < (0 : Int))) then
  some (true)
  else
  some ((decide (n_a0 > t1_a1))))

set_option maxHeartbeats 1000000 in
theorem lg_terminate_Next_1 (n_a0 : Int) (t1_a1 : Int) (res : Bool) (hr : lf_terminate_Next_1 n_a0 t1_a1 = some res) : Gives Try.prog 26 [.int .i64 n_a0, .ptr (.int .i64 t1_a1)] (.bool res) := by
  unfold lf_terminate_Next_1 at hr
  refine spec_env [(0, .int .i64 n_a0), (1, .ptr (.int .i64 t1_a1))] Try.func26 rfl rfl fun K hK => ?_
  refine g_seq ?_
  refine g_run (by kernel_rfl) [(0, .d)] rfl ?_
  refine r_d rfl rfl rfl (s_assign rfl rfl) ?_
  refine r_end ?_
  refine g_seq ?_
  refine g_run (by kernel_rfl) [(0, .d), (1, .d), (2, .d), (3, .d), (4, .d), (5, .d), (6, .d), (7, .d)] rfl ?_
  refine r_d rfl rfl rfl (s_move rfl rfl) ?_
  refine r_d rfl rfl rfl (s_cmp rfl rfl rfl rfl) ?_
  refine r_d rfl rfl rfl (s_move rfl rfl) ?_
  refine r_sB 6 rfl hr (fun h6_0 hr => ?_) (fun h6_0 hr => ?_)
  ·
    refine r_skip rfl rfl rfl ?_
    refine r_skip rfl rfl rfl ?_
    refine r_skip rfl rfl rfl ?_
    refine r_d rfl rfl rfl (s_pickT rfl rfl rfl) ?_
    refine r_d rfl rfl rfl (s_assign rfl rfl) ?_
    refine r_end ?_
    obtain rfl := Option.some.inj hr
    refine g_ret Try.func26 _ (.cons (resTmp rfl (Wk.refl _)) .nil) ?_
    rfl
  ·
    refine r_d rfl rfl rfl (s_move rfl rfl) ?_
    refine r_d rfl rfl rfl (s_load rfl rfl (by exact ty_int) rfl) ?_
    refine r_d rfl rfl rfl (s_cmp rfl rfl rfl rfl) ?_
    refine r_d rfl rfl rfl (s_pickF rfl rfl rfl) ?_
    refine r_d rfl rfl rfl (s_assign rfl rfl) ?_
    refine r_end ?_
    obtain rfl := Option.some.inj hr
    refine g_ret Try.func26 _ (.cons (resTmp rfl (Wk.refl _)) .nil) ?_
    rfl

noncomputable def lf_slices_IndexFunc_s3_L0 (k : Option (Int)) (f_a1_c0 : Int) : List Int → Nat → Option (Int)
  | [], i_1 =>
  k
  | q_2 :: rest, i_1 =>
  ((lf_terminate_Next_1 q_2 f_a1_c0).bind fun r_3 =>
  (bif r_3 then
  some ((i_1 : Int))
  else
  (lf_slices_IndexFunc_s3_L0 k f_a1_c0 rest (i_1 + 1))))
noncomputable def lf_slices_IndexFunc_s3 (s_a0 : (List Int)) (f_a1_c0 : Int) : Option (Int) :=
  (lf_slices_IndexFunc_s3_L0 (some ((-1))) f_a1_c0 s_a0 0)

set_option maxHeartbeats 1000000 in
theorem lg_slices_IndexFunc_s3 (s_a0 : (List Int)) (f_a1_c0 : Int) (res : Int) (hr : lf_slices_IndexFunc_s3 s_a0 f_a1_c0 = some res) : Gives Try.prog 38 [.lst (s_a0.map (D.int .i64)), .clo (.func 26) [] [.ptr (.int .i64 f_a1_c0)]] (.int .i64 res) := by
  unfold lf_slices_IndexFunc_s3 at hr
  refine spec_env [(0, .lst (s_a0.map (D.int .i64))), (1, .clo (.func 26) [] [.ptr (.int .i64 f_a1_c0)])] Try.func38 rfl rfl fun K hK => ?_
  refine g_seq ?_
  refine g_run (by kernel_rfl) [(0, .d)] rfl ?_
  refine r_d rfl rfl rfl (s_assign rfl rfl) ?_
  refine r_end ?_
  refine g_seq ?_
  refine g_seq ?_
  refine g_run (by kernel_rfl) [(0, .d), (1, .d), (2, .d)] rfl ?_
  refine r_d rfl rfl rfl (s_move rfl rfl) ?_
  refine r_d rfl rfl rfl (m_len (f := (D.int .i64)) s_a0 rfl el_L_int rfl (asl rfl)) ?_
  refine r_d rfl rfl rfl (s_move rfl rfl) ?_
  refine r_end ?_
  obtain ⟨kk0, hkk0, hr⟩ := exK (fun k => lf_slices_IndexFunc_s3_L0 k f_a1_c0 s_a0 0) hr
  refine g_len 0 rfl (asl rfl) fun hla0 => ?_
  simp only [List.length_map] at hla0
  refine g_blockJ (fun env σ => env = [] ∧ σ = [] ∧ kk0 = some res) ?_ (fun HK0 => ?_)
  ·
    rintro _ _ ⟨rfl, rfl, hr⟩
    rw [hkk0] at hr
    refine g_seq ?_
    refine g_run (by kernel_rfl) [(0, .d)] rfl ?_
    refine r_d rfl rfl rfl (s_assign rfl rfl) ?_
    refine r_end ?_
    obtain rfl := Option.some.inj hr
    refine g_ret Try.func38 _ (.cons (resTmp rfl (Wk.refl _)) .nil) ?_
    rfl
  ·
    refine g_sub [(0, .lst (s_a0.map (D.int .i64))), (1, .clo (.func 26) [] [.ptr (.int .i64 f_a1_c0)]), (7, .int .i64 (s_a0.length : Int)), (8, .int .i64 ((0 : Nat) : Int))] (Sub.cons' rfl (Sub.cons' rfl (Sub.cons' rfl (Sub.cons' rfl (Sub.nil _))))) ?_
    refine g_loop (fun n env σ => ∃ (i_1 : Nat), (n = s_a0.length - i_1) ∧ (env = [(0, .lst (s_a0.map (D.int .i64))), (1, .clo (.func 26) [] [.ptr (.int .i64 f_a1_c0)]), (7, .int .i64 (s_a0.length : Int)), (8, .int .i64 (i_1 : Int))]) ∧ (σ = []) ∧ (i_1 ≤ s_a0.length) ∧ (lf_slices_IndexFunc_s3_L0 kk0 f_a1_c0 (s_a0.drop i_1) i_1 = some res)) _ ⟨0, rfl, rfl, rfl, Nat.zero_le _, hr⟩ ?_
    rintro n _ _ ⟨i_1, rfl, rfl, rfl, hi0, hr⟩ IH0
    rcases listStep s_a0 i_1 hi0 with ⟨ht0, hd0, he0⟩ | ⟨q_2, ht0, hd0, hq0, hlt0⟩
    ·
      rw [hd0, lf_slices_IndexFunc_s3_L0] at hr
      refine g_seq ?_
      refine g_run (by kernel_rfl) [(0, .d)] rfl ?_
      refine r_d rfl rfl rfl (s_cmp rfl rfl rfl rfl) ?_
      refine r_end ?_
      refine g_seq ?_
      refine g_known 9 false rfl ht0 ?_
      refine g_condF rfl ?_
      refine g_exit rfl ?_
      refine g_sub [] (Sub.nil _) ?_
      exact HK0 _ _ ⟨rfl, rfl, hr⟩
    ·
      rw [hd0, lf_slices_IndexFunc_s3_L0] at hr
      refine g_seq ?_
      refine g_run (by kernel_rfl) [(0, .d)] rfl ?_
      refine r_d rfl rfl rfl (s_cmp rfl rfl rfl rfl) ?_
      refine r_end ?_
      refine g_seq ?_
      refine g_known 9 true rfl ht0 ?_
      refine g_condT rfl ?_
      refine g_skip ?_
      refine g_seq ?_
      refine g_block ?_
      refine g_seq ?_
      refine g_run (by kernel_rfl) [(0, .d), (1, .d)] rfl ?_
      refine r_d rfl rfl rfl (s_move rfl rfl) ?_
      refine r_d rfl rfl rfl (s_assign rfl rfl) ?_
      refine r_end ?_
      refine g_seq ?_
      refine g_run (by kernel_rfl) [(0, .d), (1, .d), (2, .d), (3, .d), (4, .d), (5, .d)] rfl ?_
      refine r_d rfl rfl rfl (s_move rfl rfl) ?_
      refine r_d rfl rfl rfl (s_move rfl rfl) ?_
      refine r_d rfl rfl rfl (s_move rfl rfl) ?_
      refine r_d rfl rfl rfl (m_index (f := (D.int .i64)) s_a0 rfl el_L_int rfl (asl rfl) rfl hq0 (fun _ => rfl) rfl) ?_
      refine r_d rfl rfl rfl (s_load rfl rfl (by exact ty_int) rfl) ?_
      obtain ⟨r_3, hr_3, hr⟩ := bindS hr
      refine r_d rfl rfl rfl (s_callVD rfl rfl cl_terminate_Next_1 (.cons rfl (Wk.refl _) .nil) rfl (lg_terminate_Next_1 _ _ _ hr_3)) ?_
      refine r_end ?_
      refine g_sB 16 rfl hr (fun h16_3 hr => ?_) (fun h16_3 hr => ?_)
      ·
        refine g_condT rfl ?_
        refine g_seq ?_
        refine g_run (by kernel_rfl) [(0, .d), (1, .d)] rfl ?_
        refine r_d rfl rfl rfl (s_move rfl rfl) ?_
        refine r_d rfl rfl rfl (s_assign rfl rfl) ?_
        refine r_end ?_
        obtain rfl := Option.some.inj hr
        refine g_ret Try.func38 _ (.cons (resTmp rfl (Wk.refl _)) .nil) ?_
        rfl
      ·
        refine g_condF rfl ?_
        refine g_skip ?_
        refine g_inBlock ?_
        refine g_run (by kernel_rfl) [(0, .d), (1, .d)] rfl ?_
        refine r_d rfl rfl rfl (s_ar (r := ((i_1 + 1 : Nat) : Int)) rfl rfl rfl (by simp [iar]) (by omega)) ?_
        refine r_d rfl rfl rfl (s_move rfl rfl) ?_
        refine r_end ?_
        refine g_sub [(0, .lst (s_a0.map (D.int .i64))), (1, .clo (.func 26) [] [.ptr (.int .i64 f_a1_c0)]), (7, .int .i64 (s_a0.length : Int)), (8, .int .i64 ((i_1 + 1 : Nat) : Int))] (Sub.cons' rfl (Sub.cons' rfl (Sub.cons' rfl (Sub.cons' rfl (Sub.nil _))))) ?_
        exact IH0 _ _ _ (by omega) ⟨(i_1 + 1), rfl, rfl, rfl, (by omega), hr⟩

noncomputable def lf_slices_ContainsFunc_s2 (s_a0 : (List Int)) (f_a1_c0 : Int) : Option (Bool) :=
  ((lf_slices_IndexFunc_s3 s_a0 f_a1_c0).bind fun r_1 =>
  some ((decide (r_1 ≥ (0 : Int)))))

set_option maxHeartbeats 1000000 in
theorem lg_slices_ContainsFunc_s2 (s_a0 : (List Int)) (f_a1_c0 : Int) (res : Bool) (hr : lf_slices_ContainsFunc_s2 s_a0 f_a1_c0 = some res) : Gives Try.prog 25 [.lst (s_a0.map (D.int .i64)), .clo (.func 26) [] [.ptr (.int .i64 f_a1_c0)]] (.bool res) := by
  unfold lf_slices_ContainsFunc_s2 at hr
  refine spec_env [(0, .lst (s_a0.map (D.int .i64))), (1, .clo (.func 26) [] [.ptr (.int .i64 f_a1_c0)])] Try.func25 rfl rfl fun K hK => ?_
  refine g_seq ?_
  refine g_run (by kernel_rfl) [(0, .d)] rfl ?_
  refine r_d rfl rfl rfl (s_assign rfl rfl) ?_
  refine r_end ?_
  refine g_seq ?_
  refine g_run (by kernel_rfl) [(0, .d), (1, .d), (2, .d), (3, .d), (4, .d)] rfl ?_
  refine r_d rfl rfl rfl (s_move rfl rfl) ?_
  refine r_d rfl rfl rfl (s_move rfl rfl) ?_
  obtain ⟨r_1, hr_1, hr⟩ := bindS hr
  refine r_d rfl rfl rfl (s_callD rfl cl_slices_IndexFunc_int_int (.cons rfl (Wk.refl _) (.cons rfl (Wk.refl _) .nil)) (lg_slices_IndexFunc_s3 _ _ _ hr_1)) ?_
  refine r_d rfl rfl rfl (s_cmp rfl rfl rfl rfl) ?_
  refine r_d rfl rfl rfl (s_assign rfl rfl) ?_
  refine r_end ?_
  obtain rfl := Option.some.inj hr
  refine g_ret Try.func25 _ (.cons (resTmp rfl (Wk.refl _)) .nil) ?_
  rfl

set_option maxHeartbeats 1000000 in
theorem lg_slices_Clone_int_int (l : (List Int)) (res : (List Int)) (hr : appO 8 ([] : (List Int)) l = some res) : Spec Try.prog 27 [.lst (l.map (D.int .i64))] [] (fun d σ => ∃ b, d = .arr b 1 0 res.length ∧ σ = [.arr b (res.map (D.int .i64)) 3 1]) := by
  obtain ⟨hb1, hb2, hres⟩ := appO_some hr
  obtain rfl : l = res := by simpa using hres.symm
  simp only [List.length_nil, Nat.zero_add] at hb1 hb2
  refine spec_env [(0, .lst (l.map (D.int .i64)))] Try.func27 rfl rfl fun K hK => ?_
  refine g_seq ?_
  refine g_run (by kernel_rfl) [(0, .d)] rfl ?_
  refine r_d rfl rfl rfl (s_assign rfl rfl) ?_
  refine r_end ?_
  refine g_seq ?_
  refine g_seq ?_
  refine g_run (by kernel_rfl) [(0, .d), (1, .w)] rfl ?_
  refine r_d rfl rfl rfl (s_move rfl rfl) ?_
  refine r_w rfl rfl rfl (s_isNil rfl el_L_int rfl (asl rfl) (aszm (fun _ => rfl))) ?_
  rintro _ _ ⟨q4, rfl, hq4, rfl⟩
  refine r_end ?_
  refine g_split 4 rfl (fun h4 => ?_) (fun h4 => ?_)
  ·
    have hn : l = [] := by simpa using hq4 h4
    refine g_condT rfl ?_
    refine g_seq ?_
    refine g_run (by kernel_rfl) [(0, .w)] rfl ?_
    refine r_w rfl rfl rfl (s_nilArr (e := 3) (s := 1) (by decide) (.inl rfl)) ?_
    rintro _ _ ⟨b2, rfl, rfl⟩
    refine r_end ?_
    refine g_ret Try.func27 _ (.cons (resTmp rfl (Wk.refl _)) .nil) ?_
    exact ⟨_, by rw [hn]; rfl, by rw [hn]; rfl⟩
  ·
    refine g_condF rfl ?_
    refine g_skip ?_
    refine g_seq ?_
    refine g_run (by kernel_rfl) [(0, .d), (1, .d), (2, .w), (3, .d)] rfl ?_
    refine r_d rfl rfl rfl (t_lit0 rfl el_L_int rfl) ?_
    refine r_d rfl rfl rfl (s_move rfl rfl) ?_
    refine r_w rfl rfl rfl (s_appNew rfl el_L_int rfl rfl (asl rfl) (aszm (fun _ => rfl)) (by rw [List.length_map]; exact hb1)) ?_
    rintro _ _ ⟨b7, rfl, rfl⟩
    refine r_d rfl rfl rfl (s_assign rfl rfl) ?_
    refine r_end ?_
    refine g_ret Try.func27 _ (.cons (resTmp rfl (Wk.refl _)) .nil) ?_
    exact ⟨_, by simp [packD], rfl⟩

noncomputable def lf_terminate_Next_L0 (k : Option ((List Int) × Bool)) (most_a1 : Int) : Nat → (List Int) → Option ((List Int) × Bool)
  | 0, a_6 =>
  k
  | k_7 + 1, a_6 =>
  ((getI a_6 (k_7 : Int)).bind fun q_8 =>
  (bif (decide (q_8 < most_a1)) then
  some ((a_6.set (k_7 : Int).toNat (wr (q_8 + (1 : Int)))), true)
  else
  (lf_terminate_Next_L0 k most_a1 k_7 (a_6.set (k_7 : Int).toNat 0))))
noncomputable def lf_terminate_Next (digits_a0 : (List Int)) (most_a1 : Int) : Option ((List Int) × Bool) :=
  ((lf_slices_ContainsFunc_s2 digits_a0 most_a1).bind fun r_1 =>
  (bif r_1 then
  some ([], false)
  else
  ((appO 8 [] digits_a0).bind fun l_3 =>
  ((downO (wr ((l_3.length : Int) - (1 : Int)))).bind fun m_10 =>
  (lf_terminate_Next_L0 (some ([], false)) most_a1 m_10 l_3)))))

set_option maxHeartbeats 1000000 in
theorem lg_terminate_Next (digits_a0 : (List Int)) (most_a1 : Int) (res : (List Int) × Bool) (hr : lf_terminate_Next digits_a0 most_a1 = some res) : Gives Try.prog 12 [.lst (digits_a0.map (D.int .i64)), .int .i64 most_a1] (.tup [.lst (res.1.map (D.int .i64)), .bool res.2]) := by
  unfold lf_terminate_Next at hr
  refine spec_env [(0, .lst (digits_a0.map (D.int .i64))), (1, .int .i64 most_a1)] Try.func12 rfl rfl fun K hK => ?_
  refine g_seq ?_
  refine g_run (by kernel_rfl) [(0, .d), (1, .d), (2, .d)] rfl ?_
  refine r_d rfl rfl rfl (s_box rfl rfl rfl) ?_
  refine r_d rfl rfl rfl (s_assign rfl rfl) ?_
  refine r_d rfl rfl rfl (s_assign rfl rfl) ?_
  refine r_end ?_
  refine g_seq ?_
  refine g_seq ?_
  refine g_run (by kernel_rfl) [(0, .d), (1, .d), (2, .d)] rfl ?_
  refine r_d rfl rfl rfl (s_move rfl rfl) ?_
  refine r_d rfl rfl rfl (s_makeFunc rfl rfl rfl) ?_
  obtain ⟨r_1, hr_1, hr⟩ := bindS hr
  refine r_d rfl rfl rfl (s_callD rfl cl_slices_ContainsFunc_int_int (.cons rfl (Wk.refl _) (.cons rfl (Wk.refl _) .nil)) (lg_slices_ContainsFunc_s2 _ _ _ hr_1)) ?_
  refine r_end ?_
  refine g_sB 10 rfl hr (fun h10_1 hr => ?_) (fun h10_1 hr => ?_)
  ·
    refine g_condT rfl ?_
    refine g_seq ?_
    refine g_run (by kernel_rfl) [(0, .d), (1, .d)] rfl ?_
    refine r_d rfl rfl rfl (s_assign rfl rfl) ?_
    refine r_d rfl rfl rfl (s_assign rfl rfl) ?_
    refine r_end ?_
    obtain rfl := Option.some.inj hr
    refine g_ret Try.func12 _ (.cons (resTmp rfl (Wk.full _)) (.cons (resTmp rfl (Wk.refl _)) .nil)) ?_
    rfl
  ·
    refine g_condF rfl ?_
    refine g_skip ?_
    refine g_seq ?_
    refine g_run (by kernel_rfl) [(0, .d), (1, .w), (2, .d)] rfl ?_
    refine r_d rfl rfl rfl (s_move rfl rfl) ?_
    obtain ⟨l_3, hl_3, hr⟩ := bindS hr
    refine r_w rfl rfl rfl (s_call _ rfl cl_slices_Clone_int_int (.cons rfl (Wk.refl _) .nil) (by exact List.Perm.refl _) (lg_slices_Clone_int_int digits_a0 _ hl_3)) ?_
    rintro _ _ ⟨_, ⟨b12_3, rfl, rfl⟩, rfl⟩
    refine r_st ((.arr b12_3 (l_3.map (D.int .i64)) 3 1) :: _) rfl ?_
    refine r_d rfl rfl rfl (s_assign rfl rfl) ?_
    refine r_end ?_
    refine g_seq ?_
    refine g_seq ?_
    refine g_run (by kernel_rfl) [(0, .d), (1, .d), (2, .d), (3, .d)] rfl ?_
    refine r_d rfl rfl rfl (s_move rfl rfl) ?_
    refine r_d rfl rfl rfl (s_lenA rfl Try.underlying33 rfl) ?_
    refine r_d rfl rfl rfl (s_arW rfl rfl rfl rfl) ?_
    refine r_d rfl rfl rfl (s_assign rfl rfl) ?_
    refine r_end ?_
    obtain ⟨m_10, hm_10, hr⟩ := bindS hr
    have hm_10' := downO_some hm_10
    obtain ⟨kk0, hkk0, hr⟩ := exK (fun k => lf_terminate_Next_L0 k most_a1 m_10 l_3) hr
    refine g_blockJ (fun env σ => env = [] ∧ σ = [] ∧ kk0 = some res) ?_ (fun HK0 => ?_)
    ·
      rintro _ _ ⟨rfl, rfl, hr⟩
      rw [hkk0] at hr
      refine g_seq ?_
      refine g_run (by kernel_rfl) [(0, .d), (1, .d)] rfl ?_
      refine r_d rfl rfl rfl (s_assign rfl rfl) ?_
      refine r_d rfl rfl rfl (s_assign rfl rfl) ?_
      refine r_end ?_
      obtain rfl := Option.some.inj hr
      refine g_ret Try.func12 _ (.cons (resTmp rfl (Wk.full _)) (.cons (resTmp rfl (Wk.refl _)) .nil)) ?_
      rfl
    ·
      refine g_eqD 7 (d' := .int .i64 ((m_10 : Int) - 1)) rfl (congrArg (D.int .i64) hm_10') ?_
      refine g_sub [(3, .ptr (.int .i64 most_a1)), (6, .arr b12_3 1 0 l_3.length), (7, .int .i64 ((m_10 : Int) - 1))] (Sub.cons' rfl (Sub.cons' rfl (Sub.cons' rfl (Sub.nil _)))) ?_
      refine g_loop (fun n env σ => ∃ (i_5 : Nat) (a_6 : (List Int)), (i_5 = n) ∧ (env = [(3, .ptr (.int .i64 most_a1)), (6, .arr b12_3 1 0 l_3.length), (7, .int .i64 ((i_5 : Int) - 1))]) ∧ (σ = [.arr b12_3 (a_6.map (D.int .i64)) 3 1]) ∧ (a_6.length = l_3.length) ∧ (lf_terminate_Next_L0 kk0 most_a1 i_5 a_6 = some res)) _ ⟨m_10, l_3, rfl, rfl, rfl, rfl, hr⟩ ?_
      rintro n _ _ ⟨i_5, a_6, rfl, rfl, rfl, hl_a_6, hr⟩ IH0
      refine g_int 7 rfl fun hb0 => ?_
      rcases downStep i_5 with ⟨hm0, ht0⟩ | ⟨k_7, hm0, ht0⟩
      ·
        rw [hm0, lf_terminate_Next_L0] at hr
        refine g_seq ?_
        refine g_seq ?_
        refine g_run (by kernel_rfl) [(0, .d), (1, .d)] rfl ?_
        refine r_d rfl rfl rfl (s_move rfl rfl) ?_
        refine r_d rfl rfl rfl (s_cmp rfl rfl rfl rfl) ?_
        refine r_end ?_
        refine g_known 17 false rfl ht0 ?_
        refine g_condF rfl ?_
        refine g_exit rfl ?_
        refine g_sub [] (Sub.nil _) ?_
        refine g_perm [] _ (pf0 _) ?_
        exact HK0 _ _ ⟨rfl, rfl, hr⟩
      ·
        rw [hm0, lf_terminate_Next_L0] at hr
        have ht0 : decide ((k_7 : Int) ≥ (0 : Int)) = true := decide_eq_true (by omega)
        refine g_eqD 7 (d' := .int .i64 (k_7 : Int)) rfl (by subst hm0; congr 1; omega) ?_
        refine g_seq ?_
        refine g_seq ?_
        refine g_run (by kernel_rfl) [(0, .d), (1, .d)] rfl ?_
        refine r_d rfl rfl rfl (s_move rfl rfl) ?_
        refine r_d rfl rfl rfl (s_cmp rfl rfl rfl rfl) ?_
        refine r_end ?_
        refine g_known 17 true rfl ht0 ?_
        refine g_condT rfl ?_
        refine g_skip ?_
        refine g_seq ?_
        refine g_block ?_
        refine g_seq ?_
        refine g_seq ?_
        refine g_any (by kernel_rfl) (by kernel_rfl) [(0, .d), (1, .d), (2, .d), (3, .r), (4, .d), (5, .d)] (by kernel_rfl) ?_
        refine r_d rfl rfl rfl (s_move rfl rfl) ?_
        refine r_d rfl rfl rfl (s_move rfl rfl) ?_
        obtain ⟨q_8, hq_8, hr⟩ := bindS hr
        have hq_8_n := (getI_some hq_8).2
        refine r_d rfl rfl rfl (m_indexArr0 a_6 rfl el_L_int rfl rfl hq_8 hl_a_6) ?_
        refine r_r rfl rfl rfl (t_loadM rfl rfl (.head _) (getm hq_8_n) rfl rfl (by exact ty_int) rfl) ?_
        refine r_d rfl rfl rfl (s_load rfl rfl (by exact ty_int) rfl) ?_
        refine r_d rfl rfl rfl (s_cmp rfl rfl rfl rfl) ?_
        refine r_end ?_
        refine g_sB 25 rfl hr (fun h25_8 hr => ?_) (fun h25_8 hr => ?_)
        ·
          refine g_condT rfl ?_
          refine g_seq ?_
          refine g_run (by kernel_rfl) [(0, .d), (1, .d), (2, .d), (3, .r), (4, .d), (5, .d), (6, .w)] rfl ?_
          refine r_d rfl rfl rfl (s_move rfl rfl) ?_
          refine r_d rfl rfl rfl (s_move rfl rfl) ?_
          have hq_8_n := (getI_some hq_8).2
          refine r_d rfl rfl rfl (m_indexArr0 a_6 rfl el_L_int rfl rfl hq_8 hl_a_6) ?_
          refine r_r rfl rfl rfl (t_loadM rfl rfl (.head _) (getm hq_8_n) rfl rfl (by exact ty_int) rfl) ?_
          refine r_d rfl rfl rfl (s_arW rfl rfl rfl rfl) ?_
          have hq_8_n := (getI_some hq_8).2
          refine r_d rfl rfl rfl (m_indexArr0 a_6 rfl el_L_int rfl rfl hq_8 hl_a_6) ?_
          refine r_w01 rfl rfl rfl (t_storeM _ rfl rfl rfl (Wk.refl _) (pf0 _) (getm hq_8_n) rfl rfl rfl (by exact ty_int) rfl rfl rfl) ?_
          refine r_st [.arr b12_3 ((a_6.set (k_7 : Int).toNat (wr (q_8 + (1 : Int)))).map (D.int .i64)) 3 1] (by simp [List.map_set, setD_nil]) ?_
          refine r_end ?_
          refine g_seq ?_
          refine g_run (by kernel_rfl) [(0, .d), (1, .d), (2, .d)] rfl ?_
          refine r_d rfl rfl rfl (s_move rfl rfl) ?_
          refine r_d rfl rfl rfl (s_assign rfl rfl) ?_
          refine r_d rfl rfl rfl (s_assign rfl rfl) ?_
          refine r_end ?_
          refine g_freezeArr (l := (a_6.set (k_7 : Int).toNat (wr (q_8 + (1 : Int)))).map (D.int .i64)) 4 rfl (pf0 _) (by rw [List.length_map]; exact Eq.symm (List.length_set.trans hl_a_6)) ?_
          obtain rfl := Option.some.inj hr
          refine g_ret Try.func12 _ (.cons (resTmp rfl (Wk.refl _)) (.cons (resTmp rfl (Wk.refl _)) .nil)) ?_
          rfl
        ·
          refine g_condF rfl ?_
          refine g_skip ?_
          refine g_run (by kernel_rfl) [(0, .d), (1, .d), (2, .d), (3, .w)] rfl ?_
          refine r_d rfl rfl rfl (s_move rfl rfl) ?_
          refine r_d rfl rfl rfl (s_move rfl rfl) ?_
          have hq_8_n := (getI_some hq_8).2
          refine r_d rfl rfl rfl (m_indexArr0 a_6 rfl el_L_int rfl rfl hq_8 hl_a_6) ?_
          refine r_w01 rfl rfl rfl (t_storeM _ rfl rfl rfl (Wk.refl _) (pf0 _) (getm hq_8_n) rfl rfl rfl (by exact ty_int) rfl rfl rfl) ?_
          refine r_st [.arr b12_3 ((a_6.set (k_7 : Int).toNat 0).map (D.int .i64)) 3 1] (by simp [List.map_set, setD_nil]) ?_
          refine r_end ?_
          refine g_inBlock ?_
          refine g_run (by kernel_rfl) [(0, .d), (1, .d), (2, .d)] rfl ?_
          refine r_d rfl rfl rfl (s_move rfl rfl) ?_
          refine r_d rfl rfl rfl (s_ar (r := (k_7 : Int) - 1) rfl rfl rfl rfl (by omega)) ?_
          refine r_d rfl rfl rfl (s_assign rfl rfl) ?_
          refine r_end ?_
          refine g_sub [(3, .ptr (.int .i64 most_a1)), (6, .arr b12_3 1 0 l_3.length), (7, .int .i64 ((k_7 : Int) - 1))] (Sub.cons' rfl (Sub.cons' rfl (Sub.cons' rfl (Sub.nil _)))) ?_
          exact IH0 _ _ _ (by omega) ⟨k_7, (a_6.set (k_7 : Int).toNat 0), rfl, rfl, rfl, (List.length_set.trans hl_a_6), hr⟩

noncomputable def lf_terminate_Find_L0 (k : Option ((List S_api_Rank) × Int)) (fuel : Nat) (most_a1 : Int) (p_a0 : S_api_Program) : Nat → (List Int) → Bool → Option ((List S_api_Rank) × Int)
  | 0, digits_8, more_9 =>
  none
  | rest + 1, digits_8, more_9 =>
  (bif more_9 then
  ((lf_terminate_Ranks p_a0.f0_Decls digits_8).bind fun r_11 =>
  ((lf_rank_Check fuel p_a0 r_11).bind fun r_12 =>
  (bif (r_12 == (0 : Int)) then
  some (r_11, 0)
  else
  ((lf_terminate_Next digits_8 most_a1).bind fun r_14 =>
  (lf_terminate_Find_L0 k fuel most_a1 p_a0 rest r_14.1 r_14.2)))))
  else
  k)
noncomputable def lf_terminate_Find (fuel : Nat) (p_a0 : S_api_Program) (most_a1 : Int) : Option ((List S_api_Rank) × Int) :=
  ((lf_terminate_count p_a0.f0_Decls).bind fun r_1 =>
  (bif (!r_1.2) then
  some ([], 2)
  else
  (bif (decide (r_1.1 > (8 : Int))) then
  some ([], 6)
  else
  (bif (decide (most_a1 < (1 : Int))) then
  some ([], 6)
  else
  (bif (decide (most_a1 > (3 : Int))) then
  some ([], 6)
  else
  ((makeO 8 r_1.1).bind fun n_6 =>
  (lf_terminate_Find_L0 (some ([], 13)) fuel most_a1 p_a0 fuel (List.replicate n_6 0) true)))))))

set_option maxHeartbeats 1000000 in
theorem lg_terminate_Find (fuel : Nat) (p_a0 : S_api_Program) (most_a1 : Int) (res : (List S_api_Rank) × Int) (hr : lf_terminate_Find fuel p_a0 most_a1 = some res) : Gives Try.prog 9 [enc_S_api_Program p_a0, .int .i64 most_a1] (.tup [.lst (res.1.map enc_S_api_Rank), .int .i64 res.2]) := by
  unfold lf_terminate_Find at hr
  refine spec_env [(0, enc_S_api_Program p_a0), (1, .int .i64 most_a1)] Try.func9 rfl rfl fun K hK => ?_
  refine g_seq ?_
  refine g_run (by kernel_rfl) [(0, .d), (1, .d), (2, .d)] rfl ?_
  refine r_d rfl rfl rfl (s_box rfl rfl rfl) ?_
  refine r_d rfl rfl rfl (s_assign rfl rfl) ?_
  refine r_d rfl rfl rfl (s_assign rfl rfl) ?_
  refine r_end ?_
  refine g_seq ?_
  refine g_run (by kernel_rfl) [(0, .d), (1, .d), (2, .d), (3, .d), (4, .d), (5, .d), (6, .d), (7, .d)] rfl ?_
  refine r_d rfl rfl rfl (s_fieldAddr rfl fl_api_Program_0 rfl rfl rfl rfl) ?_
  refine r_d rfl rfl rfl (s_load rfl rfl (by exact ty_L_api_Decl) rfl) ?_
  obtain ⟨r_1, hr_1, hr⟩ := bindS hr
  refine r_d rfl rfl rfl (s_callD rfl cl_terminate_count (.cons rfl (Wk.refl _) .nil) (lg_terminate_count _ _ hr_1)) ?_
  refine r_d rfl rfl rfl (s_move rfl rfl) ?_
  refine r_d rfl rfl rfl (s_extract rfl rfl rfl) ?_
  refine r_d rfl rfl rfl (s_extract rfl rfl rfl) ?_
  refine r_d rfl rfl rfl (s_assign rfl rfl) ?_
  refine r_d rfl rfl rfl (s_assign rfl rfl) ?_
  refine r_end ?_
  refine g_seq ?_
  refine g_block ?_
  refine g_seq ?_
  refine g_run (by kernel_rfl) [(0, .d), (1, .d), (2, .d)] rfl ?_
  refine r_d rfl rfl rfl (s_move rfl rfl) ?_
  refine r_d rfl rfl rfl (s_not rfl rfl) ?_
  refine r_d rfl rfl rfl (s_assign rfl rfl) ?_
  refine r_end ?_
  refine g_sB 17 rfl hr (fun h17_1 hr => ?_) (fun h17_1 hr => ?_)
  ·
    refine g_condT rfl ?_
    refine g_seq ?_
    refine g_run (by kernel_rfl) [(0, .d), (1, .d)] rfl ?_
    refine r_d rfl rfl rfl (s_assign rfl rfl) ?_
    refine r_d rfl rfl rfl (s_assign rfl rfl) ?_
    refine r_end ?_
    obtain rfl := Option.some.inj hr
    refine g_ret Try.func9 _ (.cons (resTmp rfl (Wk.full _)) (.cons (resTmp rfl (Wk.refl _)) .nil)) ?_
    rfl
  ·
    refine g_condF rfl ?_
    refine g_seq ?_
    refine g_run (by kernel_rfl) [(0, .d), (1, .d), (2, .d), (3, .d), (4, .d), (5, .d), (6, .d), (7, .d), (8, .d), (9, .d), (10, .d)] rfl ?_
    refine r_d rfl rfl rfl (s_move rfl rfl) ?_
    refine r_d rfl rfl rfl (s_cmp rfl rfl rfl rfl) ?_
    refine r_d rfl rfl rfl (s_move rfl rfl) ?_
    refine r_sB 23 rfl hr (fun h23_2 hr => ?_) (fun h23_2 hr => ?_)
    ·
      refine r_skip rfl rfl rfl ?_
      refine r_skip rfl rfl rfl ?_
      refine r_d rfl rfl rfl (s_pickT rfl rfl rfl) ?_
      refine r_d rfl rfl rfl (s_move rfl rfl) ?_
      refine r_skip rfl rfl rfl ?_
      refine r_skip rfl rfl rfl ?_
      refine r_d rfl rfl rfl (s_pickT rfl rfl rfl) ?_
      refine r_d rfl rfl rfl (s_assign rfl rfl) ?_
      refine r_end ?_
      refine g_condT rfl ?_
      refine g_seq ?_
      refine g_run (by kernel_rfl) [(0, .d), (1, .d)] rfl ?_
      refine r_d rfl rfl rfl (s_assign rfl rfl) ?_
      refine r_d rfl rfl rfl (s_assign rfl rfl) ?_
      refine r_end ?_
      obtain rfl := Option.some.inj hr
      refine g_ret Try.func9 _ (.cons (resTmp rfl (Wk.full _)) (.cons (resTmp rfl (Wk.refl _)) .nil)) ?_
      rfl
    ·
      refine r_d rfl rfl rfl (s_move rfl rfl) ?_
      refine r_d rfl rfl rfl (s_cmp rfl rfl rfl rfl) ?_
      refine r_d rfl rfl rfl (s_pickF rfl rfl rfl) ?_
      refine r_d rfl rfl rfl (s_move rfl rfl) ?_
      refine r_sB 27 rfl hr (fun h27_3 hr => ?_) (fun h27_3 hr => ?_)
      ·
        refine r_skip rfl rfl rfl ?_
        refine r_skip rfl rfl rfl ?_
        refine r_d rfl rfl rfl (s_pickT rfl rfl rfl) ?_
        refine r_d rfl rfl rfl (s_assign rfl rfl) ?_
        refine r_end ?_
        refine g_condT rfl ?_
        refine g_seq ?_
        refine g_run (by kernel_rfl) [(0, .d), (1, .d)] rfl ?_
        refine r_d rfl rfl rfl (s_assign rfl rfl) ?_
        refine r_d rfl rfl rfl (s_assign rfl rfl) ?_
        refine r_end ?_
        obtain rfl := Option.some.inj hr
        refine g_ret Try.func9 _ (.cons (resTmp rfl (Wk.full _)) (.cons (resTmp rfl (Wk.refl _)) .nil)) ?_
        rfl
      ·
        refine r_d rfl rfl rfl (s_move rfl rfl) ?_
        refine r_d rfl rfl rfl (s_cmp rfl rfl rfl rfl) ?_
        refine r_d rfl rfl rfl (s_pickF rfl rfl rfl) ?_
        refine r_d rfl rfl rfl (s_assign rfl rfl) ?_
        refine r_end ?_
        refine g_sB 20 rfl hr (fun h20_4 hr => ?_) (fun h20_4 hr => ?_)
        ·
          refine g_condT rfl ?_
          refine g_seq ?_
          refine g_run (by kernel_rfl) [(0, .d), (1, .d)] rfl ?_
          refine r_d rfl rfl rfl (s_assign rfl rfl) ?_
          refine r_d rfl rfl rfl (s_assign rfl rfl) ?_
          refine r_end ?_
          obtain rfl := Option.some.inj hr
          refine g_ret Try.func9 _ (.cons (resTmp rfl (Wk.full _)) (.cons (resTmp rfl (Wk.refl _)) .nil)) ?_
          rfl
        ·
          refine g_condF rfl ?_
          refine g_skip ?_
          refine g_inBlock ?_
          refine g_seq ?_
          refine g_run (by kernel_rfl) [(0, .d), (1, .w), (2, .d)] rfl ?_
          refine r_d rfl rfl rfl (s_move rfl rfl) ?_
          obtain ⟨n_6, hn_6, hr⟩ := bindS hr
          refine r_w rfl rfl rfl (m_makeArr (f := (D.int .i64)) 0 rfl el_L_int zv_int rfl rfl hn_6) ?_
          rintro _ _ ⟨b32_6, rfl, rfl⟩
          refine r_d rfl rfl rfl (s_assign rfl rfl) ?_
          refine r_end ?_
          refine g_freezeArr (l := (List.replicate n_6 0).map (D.int .i64)) 8 rfl (pf0 _) (by simp) ?_
          refine g_seq ?_
          refine g_seq ?_
          refine g_run (by kernel_rfl) [(0, .d)] rfl ?_
          refine r_d rfl rfl rfl (s_assign rfl rfl) ?_
          refine r_end ?_
          obtain ⟨kk0, hkk0, hr⟩ := exK (fun k => lf_terminate_Find_L0 k fuel most_a1 p_a0 fuel (List.replicate n_6 0) true) hr
          refine g_blockJ (fun env σ => env = [] ∧ σ = [] ∧ kk0 = some res) ?_ (fun HK0 => ?_)
          ·
            rintro _ _ ⟨rfl, rfl, hr⟩
            rw [hkk0] at hr
            refine g_seq ?_
            refine g_run (by kernel_rfl) [(0, .d), (1, .d)] rfl ?_
            refine r_d rfl rfl rfl (s_assign rfl rfl) ?_
            refine r_d rfl rfl rfl (s_assign rfl rfl) ?_
            refine r_end ?_
            obtain rfl := Option.some.inj hr
            refine g_ret Try.func9 _ (.cons (resTmp rfl (Wk.full _)) (.cons (resTmp rfl (Wk.refl _)) .nil)) ?_
            rfl
          ·
            refine g_sub [(1, .int .i64 most_a1), (2, .ptr (enc_S_api_Program p_a0)), (8, .lst ((List.replicate n_6 0).map (D.int .i64))), (9, .bool true)] (Sub.cons' rfl (Sub.cons' rfl (Sub.cons' rfl (Sub.cons' rfl (Sub.nil _))))) ?_
            refine g_loop (fun n env σ => ∃ (digits_8 : (List Int)) (more_9 : Bool) (n0 : Nat), (n0 = n) ∧ (env = [(1, .int .i64 most_a1), (2, .ptr (enc_S_api_Program p_a0)), (8, .lst (digits_8.map (D.int .i64))), (9, .bool more_9)]) ∧ (σ = []) ∧ (lf_terminate_Find_L0 kk0 fuel most_a1 p_a0 n0 digits_8 more_9 = some res)) _ ⟨(List.replicate n_6 0), true, _, rfl, rfl, rfl, hr⟩ ?_
            rintro n _ _ ⟨digits_8, more_9, n0, rfl, rfl, rfl, hr⟩ IH0
            cases n0 with
            | zero => rw [lf_terminate_Find_L0] at hr; cases hr
            | succ n0 =>
              rw [lf_terminate_Find_L0] at hr
              refine g_seq ?_
              refine g_seq ?_
              refine g_run (by kernel_rfl) [(0, .d)] rfl ?_
              refine r_d rfl rfl rfl (s_move rfl rfl) ?_
              refine r_end ?_
              refine g_sB 33 rfl hr (fun h33_9 hr => ?_) (fun h33_9 hr => ?_)
              ·
                refine g_condT rfl ?_
                refine g_skip ?_
                refine g_seq ?_
                refine g_block ?_
                refine g_seq ?_
                refine g_run (by kernel_rfl) [(0, .d), (1, .d), (2, .d), (3, .d), (4, .d)] rfl ?_
                refine r_d rfl rfl rfl (s_fieldAddr rfl fl_api_Program_0 rfl rfl rfl rfl) ?_
                refine r_d rfl rfl rfl (s_load rfl rfl (by exact ty_L_api_Decl) rfl) ?_
                refine r_d rfl rfl rfl (s_move rfl rfl) ?_
                obtain ⟨r_11, hr_11, hr⟩ := bindS hr
                refine r_d rfl rfl rfl (s_callD rfl cl_terminate_Ranks (.cons rfl (Wk.refl _) (.cons rfl (Wk.refl _) .nil)) (lg_terminate_Ranks _ _ _ hr_11)) ?_
                refine r_d rfl rfl rfl (s_assign rfl rfl) ?_
                refine r_end ?_
                refine g_seq ?_
                refine g_run (by kernel_rfl) [(0, .d), (1, .d), (2, .d), (3, .d)] rfl ?_
                refine r_d rfl rfl rfl (s_load rfl rfl (by exact ty_api_Program) (sz_S_api_Program _)) ?_
                refine r_d rfl rfl rfl (s_move rfl rfl) ?_
                obtain ⟨r_12, hr_12, hr⟩ := bindS hr
                refine r_d rfl rfl rfl (s_callD rfl cl_rank_Check (.cons rfl (Wk.refl _) (.cons rfl (Wk.refl _) .nil)) (lg_rank_Check fuel _ _ _ hr_12)) ?_
                refine r_d rfl rfl rfl (s_cmp rfl rfl rfl rfl) ?_
                refine r_end ?_
                refine g_sB 47 rfl hr (fun h47_12 hr => ?_) (fun h47_12 hr => ?_)
                ·
                  refine g_condT rfl ?_
                  refine g_seq ?_
                  refine g_run (by kernel_rfl) [(0, .d), (1, .d), (2, .d)] rfl ?_
                  refine r_d rfl rfl rfl (s_move rfl rfl) ?_
                  refine r_d rfl rfl rfl (s_assign rfl rfl) ?_
                  refine r_d rfl rfl rfl (s_assign rfl rfl) ?_
                  refine r_end ?_
                  obtain rfl := Option.some.inj hr
                  refine g_ret Try.func9 _ (.cons (resTmp rfl (Wk.refl _)) (.cons (resTmp rfl (Wk.refl _)) .nil)) ?_
                  rfl
                ·
                  refine g_condF rfl ?_
                  refine g_skip ?_
                  refine g_inBlock ?_
                  refine g_run (by kernel_rfl) [(0, .d), (1, .d), (2, .d), (3, .d), (4, .d), (5, .d), (6, .d), (7, .d)] rfl ?_
                  refine r_d rfl rfl rfl (s_move rfl rfl) ?_
                  refine r_d rfl rfl rfl (s_move rfl rfl) ?_
                  obtain ⟨r_14, hr_14, hr⟩ := bindS hr
                  refine r_d rfl rfl rfl (s_callD rfl cl_terminate_Next (.cons rfl (Wk.refl _) (.cons rfl (Wk.refl _) .nil)) (lg_terminate_Next _ _ _ hr_14)) ?_
                  refine r_d rfl rfl rfl (s_move rfl rfl) ?_
                  refine r_d rfl rfl rfl (s_extract rfl rfl rfl) ?_
                  refine r_d rfl rfl rfl (s_extract rfl rfl rfl) ?_
                  refine r_d rfl rfl rfl (s_assign rfl rfl) ?_
                  refine r_d rfl rfl rfl (s_assign rfl rfl) ?_
                  refine r_end ?_
                  refine g_sub [(1, .int .i64 most_a1), (2, .ptr (enc_S_api_Program p_a0)), (8, .lst (r_14.1.map (D.int .i64))), (9, .bool r_14.2)] (Sub.cons' rfl (Sub.cons' rfl (Sub.cons' rfl (Sub.cons' rfl (Sub.nil _))))) ?_
                  exact IH0 _ _ _ (by omega) ⟨r_14.1, r_14.2, _, rfl, rfl, rfl, hr⟩
              ·
                refine g_condF rfl ?_
                refine g_exit rfl ?_
                refine g_sub [] (Sub.nil _) ?_
                exact HK0 _ _ ⟨rfl, rfl, hr⟩

noncomputable def lf_constraintref42_Same_L1 (k : Option (Bool)) (q_4 : S_api_Rank) : List Int → Nat → Option (Bool)
  | [], k_8 =>
  k
  | q_9 :: rest, k_8 =>
  ((getI q_4.f2_Factors (k_8 : Int)).bind fun q_10 =>
  (bif (q_9 != q_10) then
  some (false)
  else
  (lf_constraintref42_Same_L1 k q_4 rest (k_8 + 1))))

noncomputable def lf_constraintref42_Same_L0 (k : Option (Bool)) (b_a1 : (List S_api_Rank)) : List S_api_Rank → Nat → Option (Bool)
  | [], i_2 =>
  k
  | q_3 :: rest, i_2 =>
  ((getI b_a1 (i_2 : Int)).bind fun q_4 =>
  (bif (!(q_3.f0_Name.toList == q_4.f0_Name.toList)) then
  some (false)
  else
  (bif (q_3.f1_Const != q_4.f1_Const) then
  some (false)
  else
  (bif ((q_3.f2_Factors.length : Int) != (q_4.f2_Factors.length : Int)) then
  some (false)
  else
  (lf_constraintref42_Same_L1 ((lf_constraintref42_Same_L0 k b_a1 rest (i_2 + 1))) q_4 q_3.f2_Factors 0)))))
noncomputable def lf_constraintref42_Same (a_a0 : (List S_api_Rank)) (b_a1 : (List S_api_Rank)) : Option (Bool) :=
  (bif ((a_a0.length : Int) != (b_a1.length : Int)) then
  some (false)
  else
  (lf_constraintref42_Same_L0 (some (true)) b_a1 a_a0 0))

set_option maxHeartbeats 1000000 in
theorem lg_constraintref42_Same (a_a0 : (List S_api_Rank)) (b_a1 : (List S_api_Rank)) (res : Bool) (hr : lf_constraintref42_Same a_a0 b_a1 = some res) : Gives Try.prog 11 [.lst (a_a0.map enc_S_api_Rank), .lst (b_a1.map enc_S_api_Rank)] (.bool res) := by
  unfold lf_constraintref42_Same at hr
  refine spec_env [(0, .lst (a_a0.map enc_S_api_Rank)), (1, .lst (b_a1.map enc_S_api_Rank))] Try.func11 rfl rfl fun K hK => ?_
  refine g_seq ?_
  refine g_run (by kernel_rfl) [(0, .d)] rfl ?_
  refine r_d rfl rfl rfl (s_assign rfl rfl) ?_
  refine r_end ?_
  refine g_seq ?_
  refine g_seq ?_
  refine g_run (by kernel_rfl) [(0, .d), (1, .d), (2, .d), (3, .d), (4, .d)] rfl ?_
  refine r_d rfl rfl rfl (s_move rfl rfl) ?_
  refine r_d rfl rfl rfl (m_len (f := enc_S_api_Rank) a_a0 rfl el_L_api_Rank rfl (asl rfl)) ?_
  refine r_d rfl rfl rfl (s_move rfl rfl) ?_
  refine r_d rfl rfl rfl (m_len (f := enc_S_api_Rank) b_a1 rfl el_L_api_Rank rfl (asl rfl)) ?_
  refine r_d rfl rfl rfl (s_cmp rfl rfl rfl rfl) ?_
  refine r_end ?_
  refine g_sB 11 rfl hr (fun h11_0 hr => ?_) (fun h11_0 hr => ?_)
  ·
    refine g_condT rfl ?_
    refine g_seq ?_
    refine g_run (by kernel_rfl) [(0, .d)] rfl ?_
    refine r_d rfl rfl rfl (s_assign rfl rfl) ?_
    refine r_end ?_
    obtain rfl := Option.some.inj hr
    refine g_ret Try.func11 _ (.cons (resTmp rfl (Wk.refl _)) .nil) ?_
    rfl
  ·
    refine g_condF rfl ?_
    refine g_skip ?_
    refine g_seq ?_
    refine g_seq ?_
    refine g_run (by kernel_rfl) [(0, .d)] rfl ?_
    refine r_d rfl rfl rfl (s_assign rfl rfl) ?_
    refine r_end ?_
    obtain ⟨kk0, hkk0, hr⟩ := exK (fun k => lf_constraintref42_Same_L0 k b_a1 a_a0 0) hr
    refine g_len 0 rfl (asl rfl) fun hla0 => ?_
    simp only [List.length_map] at hla0
    refine g_blockJ (fun env σ => env = [] ∧ σ = [] ∧ kk0 = some res) ?_ (fun HK0 => ?_)
    ·
      rintro _ _ ⟨rfl, rfl, hr⟩
      rw [hkk0] at hr
      refine g_seq ?_
      refine g_run (by kernel_rfl) [(0, .d)] rfl ?_
      refine r_d rfl rfl rfl (s_assign rfl rfl) ?_
      refine r_end ?_
      obtain rfl := Option.some.inj hr
      refine g_ret Try.func11 _ (.cons (resTmp rfl (Wk.refl _)) .nil) ?_
      rfl
    ·
      refine g_sub [(0, .lst (a_a0.map enc_S_api_Rank)), (1, .lst (b_a1.map enc_S_api_Rank)), (5, .int .i64 ((0 : Nat) : Int))] (Sub.cons' rfl (Sub.cons' rfl (Sub.cons' rfl (Sub.nil _)))) ?_
      refine g_loop (fun n env σ => ∃ (i_2 : Nat), (n = a_a0.length - i_2) ∧ (env = [(0, .lst (a_a0.map enc_S_api_Rank)), (1, .lst (b_a1.map enc_S_api_Rank)), (5, .int .i64 (i_2 : Int))]) ∧ (σ = []) ∧ (i_2 ≤ a_a0.length) ∧ (lf_constraintref42_Same_L0 kk0 b_a1 (a_a0.drop i_2) i_2 = some res)) _ ⟨0, rfl, rfl, rfl, Nat.zero_le _, hr⟩ ?_
      rintro n _ _ ⟨i_2, rfl, rfl, rfl, hi0, hr⟩ IH0
      rcases listStep a_a0 i_2 hi0 with ⟨ht0, hd0, he0⟩ | ⟨q_3, ht0, hd0, hq0, hlt0⟩
      ·
        rw [hd0, lf_constraintref42_Same_L0] at hr
        refine g_seq ?_
        refine g_seq ?_
        refine g_run (by kernel_rfl) [(0, .d), (1, .d), (2, .d), (3, .d)] rfl ?_
        refine r_d rfl rfl rfl (s_move rfl rfl) ?_
        refine r_d rfl rfl rfl (s_move rfl rfl) ?_
        refine r_d rfl rfl rfl (m_len (f := enc_S_api_Rank) a_a0 rfl el_L_api_Rank rfl (asl rfl)) ?_
        refine r_d rfl rfl rfl (s_cmp rfl rfl rfl rfl) ?_
        refine r_end ?_
        refine g_known 15 false rfl ht0 ?_
        refine g_condF rfl ?_
        refine g_exit rfl ?_
        refine g_sub [] (Sub.nil _) ?_
        exact HK0 _ _ ⟨rfl, rfl, hr⟩
      ·
        rw [hd0, lf_constraintref42_Same_L0] at hr
        refine g_seq ?_
        refine g_seq ?_
        refine g_run (by kernel_rfl) [(0, .d), (1, .d), (2, .d), (3, .d)] rfl ?_
        refine r_d rfl rfl rfl (s_move rfl rfl) ?_
        refine r_d rfl rfl rfl (s_move rfl rfl) ?_
        refine r_d rfl rfl rfl (m_len (f := enc_S_api_Rank) a_a0 rfl el_L_api_Rank rfl (asl rfl)) ?_
        refine r_d rfl rfl rfl (s_cmp rfl rfl rfl rfl) ?_
        refine r_end ?_
        refine g_known 15 true rfl ht0 ?_
        refine g_condT rfl ?_
        refine g_skip ?_
        refine g_seq ?_
        refine g_block ?_
        refine g_seq ?_
        refine g_seq ?_
        refine g_any (by kernel_rfl) (by kernel_rfl) [(0, .d), (1, .d), (2, .d), (3, .d), (4, .d), (5, .d), (6, .d), (7, .d), (8, .d), (9, .d), (10, .d), (11, .d), (12, .d), (13, .d), (14, .d), (15, .d), (16, .d), (17, .d), (18, .d), (19, .d), (20, .d), (21, .d), (22, .d), (23, .d), (24, .d), (25, .d), (26, .d), (27, .d), (28, .d), (29, .d), (30, .d), (31, .d), (32, .d), (33, .d), (34, .d), (35, .d), (36, .d), (37, .d), (38, .d)] (by kernel_rfl) ?_
        refine r_d rfl rfl rfl (s_move rfl rfl) ?_
        refine r_d rfl rfl rfl (s_move rfl rfl) ?_
        refine r_d rfl rfl rfl (m_index (f := enc_S_api_Rank) a_a0 rfl el_L_api_Rank rfl (asl rfl) rfl hq0 sz_S_api_Rank rfl) ?_
        refine r_d rfl rfl rfl (s_fieldAddr rfl fl_api_Rank_0 rfl rfl rfl rfl) ?_
        refine r_d rfl rfl rfl (s_load rfl rfl (by exact ty_string) rfl) ?_
        refine r_d rfl rfl rfl (s_move rfl rfl) ?_
        refine r_d rfl rfl rfl (s_move rfl rfl) ?_
        obtain ⟨q_4, hq_4, hr⟩ := bindS hr
        refine r_d rfl rfl rfl (m_index (f := enc_S_api_Rank) b_a1 rfl el_L_api_Rank rfl (asl rfl) rfl hq_4 sz_S_api_Rank rfl) ?_
        refine r_d rfl rfl rfl (s_fieldAddr rfl fl_api_Rank_0 rfl rfl rfl rfl) ?_
        refine r_d rfl rfl rfl (s_load rfl rfl (by exact ty_string) rfl) ?_
        refine r_d rfl rfl rfl (s_cmpS rfl rfl rfl rfl) ?_
        refine r_d rfl rfl rfl (s_move rfl rfl) ?_
        refine r_sB 29 rfl hr (fun h29_4 hr => ?_) (fun h29_4 hr => ?_)
        ·
          refine r_skip rfl rfl rfl ?_
          refine r_skip rfl rfl rfl ?_
          refine r_skip rfl rfl rfl ?_
          refine r_skip rfl rfl rfl ?_
          refine r_skip rfl rfl rfl ?_
          refine r_skip rfl rfl rfl ?_
          refine r_skip rfl rfl rfl ?_
          refine r_skip rfl rfl rfl ?_
          refine r_skip rfl rfl rfl ?_
          refine r_skip rfl rfl rfl ?_
          refine r_skip rfl rfl rfl ?_
          refine r_d rfl rfl rfl (s_pickT rfl rfl rfl) ?_
          refine r_d rfl rfl rfl (s_move rfl rfl) ?_
          refine r_skip rfl rfl rfl ?_
          refine r_skip rfl rfl rfl ?_
          refine r_skip rfl rfl rfl ?_
          refine r_skip rfl rfl rfl ?_
          refine r_skip rfl rfl rfl ?_
          refine r_skip rfl rfl rfl ?_
          refine r_skip rfl rfl rfl ?_
          refine r_skip rfl rfl rfl ?_
          refine r_skip rfl rfl rfl ?_
          refine r_skip rfl rfl rfl ?_
          refine r_skip rfl rfl rfl ?_
          refine r_skip rfl rfl rfl ?_
          refine r_skip rfl rfl rfl ?_
          refine r_d rfl rfl rfl (s_pickT rfl rfl rfl) ?_
          refine r_end ?_
          refine g_condT rfl ?_
          refine g_seq ?_
          refine g_run (by kernel_rfl) [(0, .d)] rfl ?_
          refine r_d rfl rfl rfl (s_assign rfl rfl) ?_
          refine r_end ?_
          obtain rfl := Option.some.inj hr
          refine g_ret Try.func11 _ (.cons (resTmp rfl (Wk.refl _)) .nil) ?_
          rfl
        ·
          refine r_d rfl rfl rfl (s_move rfl rfl) ?_
          refine r_d rfl rfl rfl (s_move rfl rfl) ?_
          refine r_d rfl rfl rfl (m_index (f := enc_S_api_Rank) a_a0 rfl el_L_api_Rank rfl (asl rfl) rfl hq0 sz_S_api_Rank rfl) ?_
          refine r_d rfl rfl rfl (s_fieldAddr rfl fl_api_Rank_1 rfl rfl rfl rfl) ?_
          refine r_d rfl rfl rfl (s_load rfl rfl (by exact ty_int) rfl) ?_
          refine r_d rfl rfl rfl (s_move rfl rfl) ?_
          refine r_d rfl rfl rfl (s_move rfl rfl) ?_
          refine r_d rfl rfl rfl (m_index (f := enc_S_api_Rank) b_a1 rfl el_L_api_Rank rfl (asl rfl) rfl hq_4 sz_S_api_Rank rfl) ?_
          refine r_d rfl rfl rfl (s_fieldAddr rfl fl_api_Rank_1 rfl rfl rfl rfl) ?_
          refine r_d rfl rfl rfl (s_load rfl rfl (by exact ty_int) rfl) ?_
          refine r_d rfl rfl rfl (s_cmp rfl rfl rfl rfl) ?_
          refine r_d rfl rfl rfl (s_pickF rfl rfl rfl) ?_
          refine r_d rfl rfl rfl (s_move rfl rfl) ?_
          refine r_sB 42 rfl hr (fun h42_5 hr => ?_) (fun h42_5 hr => ?_)
          ·
            refine r_skip rfl rfl rfl ?_
            refine r_skip rfl rfl rfl ?_
            refine r_skip rfl rfl rfl ?_
            refine r_skip rfl rfl rfl ?_
            refine r_skip rfl rfl rfl ?_
            refine r_skip rfl rfl rfl ?_
            refine r_skip rfl rfl rfl ?_
            refine r_skip rfl rfl rfl ?_
            refine r_skip rfl rfl rfl ?_
            refine r_skip rfl rfl rfl ?_
            refine r_skip rfl rfl rfl ?_
            refine r_skip rfl rfl rfl ?_
            refine r_skip rfl rfl rfl ?_
            refine r_d rfl rfl rfl (s_pickT rfl rfl rfl) ?_
            refine r_end ?_
            refine g_condT rfl ?_
            refine g_seq ?_
            refine g_run (by kernel_rfl) [(0, .d)] rfl ?_
            refine r_d rfl rfl rfl (s_assign rfl rfl) ?_
            refine r_end ?_
            obtain rfl := Option.some.inj hr
            refine g_ret Try.func11 _ (.cons (resTmp rfl (Wk.refl _)) .nil) ?_
            rfl
          ·
            refine r_d rfl rfl rfl (s_move rfl rfl) ?_
            refine r_d rfl rfl rfl (s_move rfl rfl) ?_
            refine r_d rfl rfl rfl (m_index (f := enc_S_api_Rank) a_a0 rfl el_L_api_Rank rfl (asl rfl) rfl hq0 sz_S_api_Rank rfl) ?_
            refine r_d rfl rfl rfl (s_fieldAddr rfl fl_api_Rank_2 rfl rfl rfl rfl) ?_
            refine r_d rfl rfl rfl (s_load rfl rfl (by exact ty_L_int) rfl) ?_
            refine r_d rfl rfl rfl (m_len (f := (D.int .i64)) q_3.f2_Factors rfl el_L_int rfl (asl rfl)) ?_
            refine r_d rfl rfl rfl (s_move rfl rfl) ?_
            refine r_d rfl rfl rfl (s_move rfl rfl) ?_
            refine r_d rfl rfl rfl (m_index (f := enc_S_api_Rank) b_a1 rfl el_L_api_Rank rfl (asl rfl) rfl hq_4 sz_S_api_Rank rfl) ?_
            refine r_d rfl rfl rfl (s_fieldAddr rfl fl_api_Rank_2 rfl rfl rfl rfl) ?_
            refine r_d rfl rfl rfl (s_load rfl rfl (by exact ty_L_int) rfl) ?_
            refine r_d rfl rfl rfl (m_len (f := (D.int .i64)) q_4.f2_Factors rfl el_L_int rfl (asl rfl)) ?_
            refine r_d rfl rfl rfl (s_cmp rfl rfl rfl rfl) ?_
            refine r_d rfl rfl rfl (s_pickF rfl rfl rfl) ?_
            refine r_end ?_
            refine g_sB 56 rfl hr (fun h56_6 hr => ?_) (fun h56_6 hr => ?_)
            ·
              refine g_condT rfl ?_
              refine g_seq ?_
              refine g_run (by kernel_rfl) [(0, .d)] rfl ?_
              refine r_d rfl rfl rfl (s_assign rfl rfl) ?_
              refine r_end ?_
              obtain rfl := Option.some.inj hr
              refine g_ret Try.func11 _ (.cons (resTmp rfl (Wk.refl _)) .nil) ?_
              rfl
            ·
              refine g_condF rfl ?_
              refine g_skip ?_
              refine g_seq ?_
              refine g_run (by kernel_rfl) [(0, .d)] rfl ?_
              refine r_d rfl rfl rfl (s_assign rfl rfl) ?_
              refine r_end ?_
              obtain ⟨kk1, hkk1, hr⟩ := exK (fun k => lf_constraintref42_Same_L1 k q_4 q_3.f2_Factors 0) hr
              refine g_len 47 rfl (asl rfl) fun hla1 => ?_
              simp only [List.length_map] at hla1
              refine g_blockJ (fun env σ => env = [(0, .lst (a_a0.map enc_S_api_Rank)), (1, .lst (b_a1.map enc_S_api_Rank)), (5, .int .i64 (i_2 : Int))] ∧ σ = [] ∧ kk1 = some res) ?_ (fun HK1 => ?_)
              ·
                rintro _ _ ⟨rfl, rfl, hr⟩
                rw [hkk1] at hr
                refine g_inBlock ?_
                refine g_run (by kernel_rfl) [(0, .d), (1, .d), (2, .d)] rfl ?_
                refine r_d rfl rfl rfl (s_move rfl rfl) ?_
                refine r_d rfl rfl rfl (s_ar (r := ((i_2 + 1 : Nat) : Int)) rfl rfl rfl (by simp [iar]) (by omega)) ?_
                refine r_d rfl rfl rfl (s_assign rfl rfl) ?_
                refine r_end ?_
                refine g_sub [(0, .lst (a_a0.map enc_S_api_Rank)), (1, .lst (b_a1.map enc_S_api_Rank)), (5, .int .i64 ((i_2 + 1 : Nat) : Int))] (Sub.cons' rfl (Sub.cons' rfl (Sub.cons' rfl (Sub.nil _)))) ?_
                exact IH0 _ _ _ (by omega) ⟨(i_2 + 1), rfl, rfl, rfl, (by omega), hr⟩
              ·
                refine g_sub [(0, .lst (a_a0.map enc_S_api_Rank)), (1, .lst (b_a1.map enc_S_api_Rank)), (5, .int .i64 ((i_2 : Nat) : Int)), (6, .int .i64 ((0 : Nat) : Int))] (Sub.cons' rfl (Sub.cons' rfl (Sub.cons' rfl (Sub.cons' rfl (Sub.nil _))))) ?_
                refine g_loop (fun n env σ => ∃ (k_8 : Nat), (n = q_3.f2_Factors.length - k_8) ∧ (env = [(0, .lst (a_a0.map enc_S_api_Rank)), (1, .lst (b_a1.map enc_S_api_Rank)), (5, .int .i64 (i_2 : Int)), (6, .int .i64 (k_8 : Int))]) ∧ (σ = []) ∧ (k_8 ≤ q_3.f2_Factors.length) ∧ (lf_constraintref42_Same_L1 kk1 q_4 (q_3.f2_Factors.drop k_8) k_8 = some res)) _ ⟨0, rfl, rfl, rfl, Nat.zero_le _, hr⟩ ?_
                rintro n _ _ ⟨k_8, rfl, rfl, rfl, hi1, hr⟩ IH1
                rcases listStep q_3.f2_Factors k_8 hi1 with ⟨ht1, hd1, he1⟩ | ⟨q_9, ht1, hd1, hq1, hlt1⟩
                ·
                  rw [hd1, lf_constraintref42_Same_L1] at hr
                  refine g_seq ?_
                  refine g_seq ?_
                  refine g_run (by kernel_rfl) [(0, .d), (1, .d), (2, .d), (3, .d), (4, .d), (5, .d), (6, .d), (7, .d)] rfl ?_
                  refine r_d rfl rfl rfl (s_move rfl rfl) ?_
                  refine r_d rfl rfl rfl (s_move rfl rfl) ?_
                  refine r_d rfl rfl rfl (s_move rfl rfl) ?_
                  refine r_d rfl rfl rfl (m_index (f := enc_S_api_Rank) a_a0 rfl el_L_api_Rank rfl (asl rfl) rfl hq0 sz_S_api_Rank rfl) ?_
                  refine r_d rfl rfl rfl (s_fieldAddr rfl fl_api_Rank_2 rfl rfl rfl rfl) ?_
                  refine r_d rfl rfl rfl (s_load rfl rfl (by exact ty_L_int) rfl) ?_
                  refine r_d rfl rfl rfl (m_len (f := (D.int .i64)) q_3.f2_Factors rfl el_L_int rfl (asl rfl)) ?_
                  refine r_d rfl rfl rfl (s_cmp rfl rfl rfl rfl) ?_
                  refine r_end ?_
                  refine g_known 64 false rfl ht1 ?_
                  refine g_condF rfl ?_
                  refine g_exit rfl ?_
                  refine g_sub [(0, .lst (a_a0.map enc_S_api_Rank)), (1, .lst (b_a1.map enc_S_api_Rank)), (5, .int .i64 (i_2 : Int))] (Sub.cons' rfl (Sub.cons' rfl (Sub.cons' rfl (Sub.nil _)))) ?_
                  exact HK1 _ _ ⟨rfl, rfl, hr⟩
                ·
                  rw [hd1, lf_constraintref42_Same_L1] at hr
                  refine g_seq ?_
                  refine g_seq ?_
                  refine g_run (by kernel_rfl) [(0, .d), (1, .d), (2, .d), (3, .d), (4, .d), (5, .d), (6, .d), (7, .d)] rfl ?_
                  refine r_d rfl rfl rfl (s_move rfl rfl) ?_
                  refine r_d rfl rfl rfl (s_move rfl rfl) ?_
                  refine r_d rfl rfl rfl (s_move rfl rfl) ?_
                  refine r_d rfl rfl rfl (m_index (f := enc_S_api_Rank) a_a0 rfl el_L_api_Rank rfl (asl rfl) rfl hq0 sz_S_api_Rank rfl) ?_
                  refine r_d rfl rfl rfl (s_fieldAddr rfl fl_api_Rank_2 rfl rfl rfl rfl) ?_
                  refine r_d rfl rfl rfl (s_load rfl rfl (by exact ty_L_int) rfl) ?_
                  refine r_d rfl rfl rfl (m_len (f := (D.int .i64)) q_3.f2_Factors rfl el_L_int rfl (asl rfl)) ?_
                  refine r_d rfl rfl rfl (s_cmp rfl rfl rfl rfl) ?_
                  refine r_end ?_
                  refine g_known 64 true rfl ht1 ?_
                  refine g_condT rfl ?_
                  refine g_skip ?_
                  refine g_seq ?_
                  refine g_block ?_
                  refine g_seq ?_
                  refine g_any (by kernel_rfl) (by kernel_rfl) [(0, .d), (1, .d), (2, .d), (3, .d), (4, .d), (5, .d), (6, .d), (7, .d), (8, .d), (9, .d), (10, .d), (11, .d), (12, .d), (13, .d), (14, .d), (15, .d), (16, .d)] (by kernel_rfl) ?_
                  refine r_d rfl rfl rfl (s_move rfl rfl) ?_
                  refine r_d rfl rfl rfl (s_move rfl rfl) ?_
                  refine r_d rfl rfl rfl (m_index (f := enc_S_api_Rank) a_a0 rfl el_L_api_Rank rfl (asl rfl) rfl hq0 sz_S_api_Rank rfl) ?_
                  refine r_d rfl rfl rfl (s_fieldAddr rfl fl_api_Rank_2 rfl rfl rfl rfl) ?_
                  refine r_d rfl rfl rfl (s_load rfl rfl (by exact ty_L_int) rfl) ?_
                  refine r_d rfl rfl rfl (s_move rfl rfl) ?_
                  refine r_d rfl rfl rfl (m_index (f := (D.int .i64)) q_3.f2_Factors rfl el_L_int rfl (asl rfl) rfl hq1 (fun _ => rfl) rfl) ?_
                  refine r_d rfl rfl rfl (s_load rfl rfl (by exact ty_int) rfl) ?_
                  refine r_d rfl rfl rfl (s_move rfl rfl) ?_
                  refine r_d rfl rfl rfl (s_move rfl rfl) ?_
                  refine r_d rfl rfl rfl (m_index (f := enc_S_api_Rank) b_a1 rfl el_L_api_Rank rfl (asl rfl) rfl hq_4 sz_S_api_Rank rfl) ?_
                  refine r_d rfl rfl rfl (s_fieldAddr rfl fl_api_Rank_2 rfl rfl rfl rfl) ?_
                  refine r_d rfl rfl rfl (s_load rfl rfl (by exact ty_L_int) rfl) ?_
                  refine r_d rfl rfl rfl (s_move rfl rfl) ?_
                  obtain ⟨q_10, hq_10, hr⟩ := bindS hr
                  refine r_d rfl rfl rfl (m_index (f := (D.int .i64)) q_4.f2_Factors rfl el_L_int rfl (asl rfl) rfl hq_10 (fun _ => rfl) rfl) ?_
                  refine r_d rfl rfl rfl (s_load rfl rfl (by exact ty_int) rfl) ?_
                  refine r_d rfl rfl rfl (s_cmp rfl rfl rfl rfl) ?_
                  refine r_end ?_
                  refine g_sB 83 rfl hr (fun h83_10 hr => ?_) (fun h83_10 hr => ?_)
                  ·
                    refine g_condT rfl ?_
                    refine g_seq ?_
                    refine g_run (by kernel_rfl) [(0, .d)] rfl ?_
                    refine r_d rfl rfl rfl (s_assign rfl rfl) ?_
                    refine r_end ?_
                    obtain rfl := Option.some.inj hr
                    refine g_ret Try.func11 _ (.cons (resTmp rfl (Wk.refl _)) .nil) ?_
                    rfl
                  ·
                    refine g_condF rfl ?_
                    refine g_skip ?_
                    refine g_inBlock ?_
                    refine g_run (by kernel_rfl) [(0, .d), (1, .d), (2, .d)] rfl ?_
                    refine r_d rfl rfl rfl (s_move rfl rfl) ?_
                    refine r_d rfl rfl rfl (s_ar (r := ((k_8 + 1 : Nat) : Int)) rfl rfl rfl (by simp [iar]) (by omega)) ?_
                    refine r_d rfl rfl rfl (s_assign rfl rfl) ?_
                    refine r_end ?_
                    refine g_sub [(0, .lst (a_a0.map enc_S_api_Rank)), (1, .lst (b_a1.map enc_S_api_Rank)), (5, .int .i64 ((i_2 : Nat) : Int)), (6, .int .i64 ((k_8 + 1 : Nat) : Int))] (Sub.cons' rfl (Sub.cons' rfl (Sub.cons' rfl (Sub.cons' rfl (Sub.nil _))))) ?_
                    exact IH1 _ _ _ (by omega) ⟨(k_8 + 1), rfl, rfl, rfl, (by omega), hr⟩

noncomputable def lf_constraintref03_SameInts_L0 (k : Option (Bool)) (b_a1 : (List Int)) : List Int → Nat → Option (Bool)
  | [], i_2 =>
  k
  | q_3 :: rest, i_2 =>
  (bif (decide ((i_2 : Int) < (b_a1.length : Int))) then
  ((getI b_a1 (i_2 : Int)).bind fun q_5 =>
  (bif (q_3 != q_5) then
  some (false)
  else
  (lf_constraintref03_SameInts_L0 k b_a1 rest (i_2 + 1))))
  else
  k)
noncomputable def lf_constraintref03_SameInts (a_a0 : (List Int)) (b_a1 : (List Int)) : Option (Bool) :=
  (bif ((a_a0.length : Int) != (b_a1.length : Int)) then
  some (false)
  else
  (lf_constraintref03_SameInts_L0 (some (true)) b_a1 a_a0 0))

set_option maxHeartbeats 1000000 in
theorem lg_constraintref03_SameInts (a_a0 : (List Int)) (b_a1 : (List Int)) (res : Bool) (hr : lf_constraintref03_SameInts a_a0 b_a1 = some res) : Gives Try.prog 14 [.lst (a_a0.map (D.int .i64)), .lst (b_a1.map (D.int .i64))] (.bool res) := by
  unfold lf_constraintref03_SameInts at hr
  refine spec_env [(0, .lst (a_a0.map (D.int .i64))), (1, .lst (b_a1.map (D.int .i64)))] Try.func14 rfl rfl fun K hK => ?_
  refine g_seq ?_
  refine g_run (by kernel_rfl) [(0, .d)] rfl ?_
  refine r_d rfl rfl rfl (s_assign rfl rfl) ?_
  refine r_end ?_
  refine g_seq ?_
  refine g_seq ?_
  refine g_run (by kernel_rfl) [(0, .d), (1, .d), (2, .d), (3, .d), (4, .d)] rfl ?_
  refine r_d rfl rfl rfl (s_move rfl rfl) ?_
  refine r_d rfl rfl rfl (m_len (f := (D.int .i64)) a_a0 rfl el_L_int rfl (asl rfl)) ?_
  refine r_d rfl rfl rfl (s_move rfl rfl) ?_
  refine r_d rfl rfl rfl (m_len (f := (D.int .i64)) b_a1 rfl el_L_int rfl (asl rfl)) ?_
  refine r_d rfl rfl rfl (s_cmp rfl rfl rfl rfl) ?_
  refine r_end ?_
  refine g_sB 10 rfl hr (fun h10_0 hr => ?_) (fun h10_0 hr => ?_)
  ·
    refine g_condT rfl ?_
    refine g_seq ?_
    refine g_run (by kernel_rfl) [(0, .d)] rfl ?_
    refine r_d rfl rfl rfl (s_assign rfl rfl) ?_
    refine r_end ?_
    obtain rfl := Option.some.inj hr
    refine g_ret Try.func14 _ (.cons (resTmp rfl (Wk.refl _)) .nil) ?_
    rfl
  ·
    refine g_condF rfl ?_
    refine g_skip ?_
    refine g_seq ?_
    refine g_seq ?_
    refine g_run (by kernel_rfl) [(0, .d)] rfl ?_
    refine r_d rfl rfl rfl (s_assign rfl rfl) ?_
    refine r_end ?_
    obtain ⟨kk0, hkk0, hr⟩ := exK (fun k => lf_constraintref03_SameInts_L0 k b_a1 a_a0 0) hr
    refine g_len 0 rfl (asl rfl) fun hla0 => ?_
    simp only [List.length_map] at hla0
    refine g_blockJ (fun env σ => env = [] ∧ σ = [] ∧ kk0 = some res) ?_ (fun HK0 => ?_)
    ·
      rintro _ _ ⟨rfl, rfl, hr⟩
      rw [hkk0] at hr
      refine g_seq ?_
      refine g_run (by kernel_rfl) [(0, .d)] rfl ?_
      refine r_d rfl rfl rfl (s_assign rfl rfl) ?_
      refine r_end ?_
      obtain rfl := Option.some.inj hr
      refine g_ret Try.func14 _ (.cons (resTmp rfl (Wk.refl _)) .nil) ?_
      rfl
    ·
      refine g_sub [(0, .lst (a_a0.map (D.int .i64))), (1, .lst (b_a1.map (D.int .i64))), (5, .int .i64 ((0 : Nat) : Int))] (Sub.cons' rfl (Sub.cons' rfl (Sub.cons' rfl (Sub.nil _)))) ?_
      refine g_loop (fun n env σ => ∃ (i_2 : Nat), (n = a_a0.length - i_2) ∧ (env = [(0, .lst (a_a0.map (D.int .i64))), (1, .lst (b_a1.map (D.int .i64))), (5, .int .i64 (i_2 : Int))]) ∧ (σ = []) ∧ (i_2 ≤ a_a0.length) ∧ (lf_constraintref03_SameInts_L0 kk0 b_a1 (a_a0.drop i_2) i_2 = some res)) _ ⟨0, rfl, rfl, rfl, Nat.zero_le _, hr⟩ ?_
      rintro n _ _ ⟨i_2, rfl, rfl, rfl, hi0, hr⟩ IH0
      rcases listStep a_a0 i_2 hi0 with ⟨ht0, hd0, he0⟩ | ⟨q_3, ht0, hd0, hq0, hlt0⟩
      ·
        rw [hd0, lf_constraintref03_SameInts_L0] at hr
        refine g_seq ?_
        refine g_seq ?_
        refine g_run (by kernel_rfl) [(0, .d), (1, .d), (2, .d), (3, .d), (4, .d), (5, .d), (6, .d), (7, .d), (8, .d), (9, .d)] rfl ?_
        refine r_d rfl rfl rfl (s_move rfl rfl) ?_
        refine r_d rfl rfl rfl (s_move rfl rfl) ?_
        refine r_d rfl rfl rfl (m_len (f := (D.int .i64)) a_a0 rfl el_L_int rfl (asl rfl)) ?_
        refine r_d rfl rfl rfl (s_cmp rfl rfl rfl rfl) ?_
        refine r_d rfl rfl rfl (s_move rfl rfl) ?_
        refine r_known 15 false rfl ht0 ?_
        refine r_skip rfl rfl rfl ?_
        refine r_skip rfl rfl rfl ?_
        refine r_skip rfl rfl rfl ?_
        refine r_skip rfl rfl rfl ?_
        refine r_d rfl rfl rfl (s_pickF rfl rfl rfl) ?_
        refine r_end ?_
        refine g_condF rfl ?_
        refine g_exit rfl ?_
        refine g_sub [] (Sub.nil _) ?_
        exact HK0 _ _ ⟨rfl, rfl, hr⟩
      ·
        rw [hd0, lf_constraintref03_SameInts_L0] at hr
        refine g_seq ?_
        refine g_seq ?_
        refine g_run (by kernel_rfl) [(0, .d), (1, .d), (2, .d), (3, .d), (4, .d), (5, .d), (6, .d), (7, .d), (8, .d), (9, .d)] rfl ?_
        refine r_d rfl rfl rfl (s_move rfl rfl) ?_
        refine r_d rfl rfl rfl (s_move rfl rfl) ?_
        refine r_d rfl rfl rfl (m_len (f := (D.int .i64)) a_a0 rfl el_L_int rfl (asl rfl)) ?_
        refine r_d rfl rfl rfl (s_cmp rfl rfl rfl rfl) ?_
        refine r_d rfl rfl rfl (s_move rfl rfl) ?_
        refine r_known 15 true rfl ht0 ?_
        refine r_d rfl rfl rfl (s_move rfl rfl) ?_
        refine r_d rfl rfl rfl (s_move rfl rfl) ?_
        refine r_d rfl rfl rfl (m_len (f := (D.int .i64)) b_a1 rfl el_L_int rfl (asl rfl)) ?_
        refine r_d rfl rfl rfl (s_cmp rfl rfl rfl rfl) ?_
        refine r_d rfl rfl rfl (s_pickT rfl rfl rfl) ?_
        refine r_end ?_
        refine g_sB 20 rfl hr (fun h20_3 hr => ?_) (fun h20_3 hr => ?_)
        ·
          refine g_condT rfl ?_
          refine g_skip ?_
          refine g_seq ?_
          refine g_block ?_
          refine g_seq ?_
          refine g_any (by kernel_rfl) (by kernel_rfl) [(0, .d), (1, .d), (2, .d), (3, .d), (4, .d), (5, .d), (6, .d), (7, .d), (8, .d)] (by kernel_rfl) ?_
          refine r_d rfl rfl rfl (s_move rfl rfl) ?_
          refine r_d rfl rfl rfl (s_move rfl rfl) ?_
          refine r_d rfl rfl rfl (m_index (f := (D.int .i64)) a_a0 rfl el_L_int rfl (asl rfl) rfl hq0 (fun _ => rfl) rfl) ?_
          refine r_d rfl rfl rfl (s_load rfl rfl (by exact ty_int) rfl) ?_
          refine r_d rfl rfl rfl (s_move rfl rfl) ?_
          refine r_d rfl rfl rfl (s_move rfl rfl) ?_
          obtain ⟨q_5, hq_5, hr⟩ := bindS hr
          refine r_d rfl rfl rfl (m_index (f := (D.int .i64)) b_a1 rfl el_L_int rfl (asl rfl) rfl hq_5 (fun _ => rfl) rfl) ?_
          refine r_d rfl rfl rfl (s_load rfl rfl (by exact ty_int) rfl) ?_
          refine r_d rfl rfl rfl (s_cmp rfl rfl rfl rfl) ?_
          refine r_end ?_
          refine g_sB 31 rfl hr (fun h31_5 hr => ?_) (fun h31_5 hr => ?_)
          ·
            refine g_condT rfl ?_
            refine g_seq ?_
            refine g_run (by kernel_rfl) [(0, .d)] rfl ?_
            refine r_d rfl rfl rfl (s_assign rfl rfl) ?_
            refine r_end ?_
            obtain rfl := Option.some.inj hr
            refine g_ret Try.func14 _ (.cons (resTmp rfl (Wk.refl _)) .nil) ?_
            rfl
          ·
            refine g_condF rfl ?_
            refine g_skip ?_
            refine g_inBlock ?_
            refine g_run (by kernel_rfl) [(0, .d), (1, .d), (2, .d)] rfl ?_
            refine r_d rfl rfl rfl (s_move rfl rfl) ?_
            refine r_d rfl rfl rfl (s_ar (r := ((i_2 + 1 : Nat) : Int)) rfl rfl rfl (by simp [iar]) (by omega)) ?_
            refine r_d rfl rfl rfl (s_assign rfl rfl) ?_
            refine r_end ?_
            refine g_sub [(0, .lst (a_a0.map (D.int .i64))), (1, .lst (b_a1.map (D.int .i64))), (5, .int .i64 ((i_2 + 1 : Nat) : Int))] (Sub.cons' rfl (Sub.cons' rfl (Sub.cons' rfl (Sub.nil _)))) ?_
            exact IH0 _ _ _ (by omega) ⟨(i_2 + 1), rfl, rfl, rfl, (by omega), hr⟩
        ·
          refine g_condF rfl ?_
          refine g_exit rfl ?_
          refine g_sub [] (Sub.nil _) ?_
          exact HK0 _ _ ⟨rfl, rfl, hr⟩

noncomputable def lf_constraintlaw42_exampleHolds (fuel : Nat) : Option (Bool) :=
  ((lf_constraintref03_Var 0).bind fun r_1 =>
  ((lf_constraintlaw42_func1 ⟨#[112]⟩ ⟨#[113]⟩ r_1).bind fun r_3 =>
  ((lf_constraintref03_Fun ⟨#[102]⟩ [r_1]).bind fun r_5 =>
  ((lf_constraintlaw42_func1 ⟨#[112]⟩ ⟨#[112]⟩ r_5).bind fun r_6 =>
  ((lf_terminate_Find fuel (⟨[(⟨⟨#[112]⟩, 1⟩ : S_api_Decl), (⟨⟨#[113]⟩, 1⟩ : S_api_Decl)], [r_3]⟩ : S_api_Program) 2).bind fun r_8 =>
  ((lf_terminate_Find fuel (⟨[(⟨⟨#[112]⟩, 1⟩ : S_api_Decl)], [r_6]⟩ : S_api_Program) 1).bind fun r_9 =>
  ((lf_terminate_Next [0, 2, 2] 2).bind fun r_10 =>
  ((lf_terminate_Next [2, 2] 2).bind fun r_11 =>
  (bif (r_8.2 == (0 : Int)) then
  ((lf_constraintref42_Same r_8.1 [(⟨⟨#[112]⟩, 0, [1]⟩ : S_api_Rank), (⟨⟨#[113]⟩, 0, [0]⟩ : S_api_Rank)]).bind fun r_13 =>
  (bif r_13 then
  (bif (r_9.2 == (0 : Int)) then
  ((lf_constraintref42_Same r_9.1 [(⟨⟨#[112]⟩, 0, [1]⟩ : S_api_Rank)]).bind fun r_16 =>
  (bif r_16 then
  (bif r_10.2 then
  ((lf_constraintref03_SameInts r_10.1 [1, 0, 0]).bind fun r_19 =>
  (bif r_19 then
  (bif (!r_11.2) then
  ((lf_terminate_Ranks [(⟨⟨#[112]⟩, 2⟩ : S_api_Decl)] [1]).bind fun r_22 =>
  some (((r_22.length : Int) == (1 : Int))))
  else
  some (false))
  else
  some (false)))
  else
  some (false))
  else
  some (false)))
  else
  some (false))
  else
  some (false)))
  else
  some (false))))))))))

set_option maxHeartbeats 1000000 in
theorem lg_constraintlaw42_exampleHolds (fuel : Nat) (res : Bool) (hr : lf_constraintlaw42_exampleHolds fuel = some res) : Gives Try.prog 8 [] (.bool res) := by
  unfold lf_constraintlaw42_exampleHolds at hr
  refine spec_env [] Try.func8 rfl rfl fun K hK => ?_
  refine g_seq ?_
  refine g_run (by kernel_rfl) [(0, .d)] rfl ?_
  refine r_d rfl rfl rfl (s_assign rfl rfl) ?_
  refine r_end ?_
  refine g_seq ?_
  refine g_run (by kernel_rfl) [(0, .d), (1, .w), (2, .w)] rfl ?_
  obtain ⟨r_1, hr_1, hr⟩ := bindS hr
  refine r_d rfl rfl rfl (s_callD rfl cl_constraintref03_Var (.cons rfl (Wk.refl _) .nil) (lg_constraintref03_Var _ _ hr_1)) ?_
  refine r_w rfl rfl rfl (s_alloc rfl zv_api_Term) ?_
  rintro _ _ ⟨b1_1, rfl, rfl⟩
  refine r_w01 rfl rfl rfl (t_store0 _ rfl rfl rfl (Wk.refl _) (pf0 _) (by exact ty_api_Term) (sz_encT _) rfl rfl) ?_
  refine r_end ?_
  refine g_freeze 1 b1_1 rfl (pf0 _) ?_
  refine g_seq ?_
  refine g_run (by kernel_rfl) [(0, .d), (1, .d), (2, .w), (3, .w)] rfl ?_
  refine r_d rfl rfl rfl (s_load rfl rfl (by exact ty_api_Term) (sz_encT _)) ?_
  obtain ⟨r_3, hr_3, hr⟩ := bindS hr
  refine r_d rfl rfl rfl (s_callD rfl cl_constraintlaw42_func1 (.cons rfl (Wk.refl _) (.cons rfl (Wk.refl _) (.cons rfl (Wk.refl _) .nil))) (lg_constraintlaw42_func1 _ _ _ _ hr_3)) ?_
  refine r_w rfl rfl rfl (s_alloc rfl zv_api_Rule) ?_
  rintro _ _ ⟨b2_3, rfl, rfl⟩
  refine r_w01 rfl rfl rfl (t_store0 _ rfl rfl rfl (Wk.refl _) (pf0 _) (by exact ty_api_Rule) (sz_S_api_Rule _) rfl rfl) ?_
  refine r_end ?_
  refine g_freeze 2 b2_3 rfl (pf0 _) ?_
  refine g_seq ?_
  refine g_run (by kernel_rfl) [(0, .d), (1, .d), (2, .d), (3, .d), (4, .w), (5, .w)] rfl ?_
  refine r_d rfl rfl rfl (s_load rfl rfl (by exact ty_api_Term) (sz_encT _)) ?_
  refine r_d rfl rfl rfl (m_lit (f := encT) [.tmp 15] [r_1] rfl el_L_api_Term rfl rfl (by decide) (by decide) (.cons rfl (Wk.refl _) .nil) sz_encT (fun _ => rfl)) ?_
  obtain ⟨r_5, hr_5, hr⟩ := bindS hr
  refine r_d rfl rfl rfl (s_callD rfl cl_constraintref03_Fun (.cons rfl (Wk.refl _) (.cons rfl (Wk.full _) .nil)) (lg_constraintref03_Fun _ _ _ hr_5)) ?_
  obtain ⟨r_6, hr_6, hr⟩ := bindS hr
  refine r_d rfl rfl rfl (s_callD rfl cl_constraintlaw42_func1 (.cons rfl (Wk.refl _) (.cons rfl (Wk.refl _) (.cons rfl (Wk.refl _) .nil))) (lg_constraintlaw42_func1 _ _ _ _ hr_6)) ?_
  refine r_w rfl rfl rfl (s_alloc rfl zv_api_Rule) ?_
  rintro _ _ ⟨b3_6, rfl, rfl⟩
  refine r_w01 rfl rfl rfl (t_store0 _ rfl rfl rfl (Wk.refl _) (pf0 _) (by exact ty_api_Rule) (sz_S_api_Rule _) rfl rfl) ?_
  refine r_end ?_
  refine g_freeze 3 b3_6 rfl (pf0 _) ?_
  refine g_seq ?_
  refine g_run (by kernel_rfl) [(0, .d), (1, .d), (2, .d), (3, .d), (4, .d), (5, .d), (6, .d), (7, .d), (8, .d), (9, .d), (10, .d), (11, .d)] rfl ?_
  refine r_d rfl rfl rfl (s_build rfl bt_api_Decl (.cons rfl (Wk.refl _) (.cons rfl (Wk.refl _) .nil)) (.cons rfl rfl rfl (.cons rfl rfl rfl (.nil _)))) ?_
  refine r_d rfl rfl rfl (s_build rfl bt_api_Decl (.cons rfl (Wk.refl _) (.cons rfl (Wk.refl _) .nil)) (.cons rfl rfl rfl (.cons rfl rfl rfl (.nil _)))) ?_
  refine r_d rfl rfl rfl (m_lit (f := enc_S_api_Decl) [.tmp 20, .tmp 21] [(⟨⟨#[112]⟩, 1⟩ : S_api_Decl), (⟨⟨#[113]⟩, 1⟩ : S_api_Decl)] rfl el_L_api_Decl rfl rfl (by decide) (by decide) (.cons rfl (Wk.refl _) (.cons rfl (Wk.refl _) .nil)) sz_S_api_Decl (fun _ => rfl)) ?_
  refine r_d rfl rfl rfl (s_load rfl rfl (by exact ty_api_Rule) (sz_S_api_Rule _)) ?_
  refine r_d rfl rfl rfl (m_lit (f := enc_S_api_Rule) [.tmp 23] [r_3] rfl el_L_api_Rule rfl rfl (by decide) (by decide) (.cons rfl (Wk.refl _) .nil) sz_S_api_Rule (fun _ => rfl)) ?_
  refine r_d rfl rfl rfl (s_build rfl bt_api_Program (.cons rfl (Wk.full _) (.cons rfl (Wk.full _) .nil)) (.cons rfl rfl rfl (.cons rfl rfl rfl (.nil _)))) ?_
  obtain ⟨r_8, hr_8, hr⟩ := bindS hr
  refine r_d rfl rfl rfl (s_callD rfl cl_terminate_Find (.cons rfl (Wk.refl _) (.cons rfl (Wk.refl _) .nil)) (lg_terminate_Find fuel _ _ _ hr_8)) ?_
  refine r_d rfl rfl rfl (s_move rfl rfl) ?_
  refine r_d rfl rfl rfl (s_extract rfl rfl rfl) ?_
  refine r_d rfl rfl rfl (s_extract rfl rfl rfl) ?_
  refine r_d rfl rfl rfl (s_assign rfl rfl) ?_
  refine r_d rfl rfl rfl (s_assign rfl rfl) ?_
  refine r_end ?_
  refine g_seq ?_
  refine g_run (by kernel_rfl) [(0, .d), (1, .d), (2, .d), (3, .d), (4, .d), (5, .d), (6, .d), (7, .d), (8, .d), (9, .d), (10, .d)] rfl ?_
  refine r_d rfl rfl rfl (s_build rfl bt_api_Decl (.cons rfl (Wk.refl _) (.cons rfl (Wk.refl _) .nil)) (.cons rfl rfl rfl (.cons rfl rfl rfl (.nil _)))) ?_
  refine r_d rfl rfl rfl (m_lit (f := enc_S_api_Decl) [.tmp 30] [(⟨⟨#[112]⟩, 1⟩ : S_api_Decl)] rfl el_L_api_Decl rfl rfl (by decide) (by decide) (.cons rfl (Wk.refl _) .nil) sz_S_api_Decl (fun _ => rfl)) ?_
  refine r_d rfl rfl rfl (s_load rfl rfl (by exact ty_api_Rule) (sz_S_api_Rule _)) ?_
  refine r_d rfl rfl rfl (m_lit (f := enc_S_api_Rule) [.tmp 32] [r_6] rfl el_L_api_Rule rfl rfl (by decide) (by decide) (.cons rfl (Wk.refl _) .nil) sz_S_api_Rule (fun _ => rfl)) ?_
  refine r_d rfl rfl rfl (s_build rfl bt_api_Program (.cons rfl (Wk.full _) (.cons rfl (Wk.full _) .nil)) (.cons rfl rfl rfl (.cons rfl rfl rfl (.nil _)))) ?_
  obtain ⟨r_9, hr_9, hr⟩ := bindS hr
  refine r_d rfl rfl rfl (s_callD rfl cl_terminate_Find (.cons rfl (Wk.refl _) (.cons rfl (Wk.refl _) .nil)) (lg_terminate_Find fuel _ _ _ hr_9)) ?_
  refine r_d rfl rfl rfl (s_move rfl rfl) ?_
  refine r_d rfl rfl rfl (s_extract rfl rfl rfl) ?_
  refine r_d rfl rfl rfl (s_extract rfl rfl rfl) ?_
  refine r_d rfl rfl rfl (s_assign rfl rfl) ?_
  refine r_d rfl rfl rfl (s_assign rfl rfl) ?_
  refine r_end ?_
  refine g_seq ?_
  refine g_run (by kernel_rfl) [(0, .d), (1, .d), (2, .d), (3, .d), (4, .d), (5, .d), (6, .d)] rfl ?_
  refine r_d rfl rfl rfl (m_lit (f := (D.int .i64)) [.const (.int .i64 (0)), .const (.int .i64 (2)), .const (.int .i64 (2))] [0, 2, 2] rfl el_L_int rfl rfl (by decide) (by decide) (.cons rfl (Wk.refl _) (.cons rfl (Wk.refl _) (.cons rfl (Wk.refl _) .nil))) (fun _ => rfl) (fun _ => rfl)) ?_
  obtain ⟨r_10, hr_10, hr⟩ := bindS hr
  refine r_d rfl rfl rfl (s_callD rfl cl_terminate_Next (.cons rfl (Wk.full _) (.cons rfl (Wk.refl _) .nil)) (lg_terminate_Next _ _ _ hr_10)) ?_
  refine r_d rfl rfl rfl (s_move rfl rfl) ?_
  refine r_d rfl rfl rfl (s_extract rfl rfl rfl) ?_
  refine r_d rfl rfl rfl (s_extract rfl rfl rfl) ?_
  refine r_d rfl rfl rfl (s_assign rfl rfl) ?_
  refine r_d rfl rfl rfl (s_assign rfl rfl) ?_
  refine r_end ?_
  refine g_seq ?_
  refine g_run (by kernel_rfl) [(0, .d), (1, .d), (2, .d), (3, .d), (4, .d), (5, .d), (6, .d)] rfl ?_
  refine r_d rfl rfl rfl (m_lit (f := (D.int .i64)) [.const (.int .i64 (2)), .const (.int .i64 (2))] [2, 2] rfl el_L_int rfl rfl (by decide) (by decide) (.cons rfl (Wk.refl _) (.cons rfl (Wk.refl _) .nil)) (fun _ => rfl) (fun _ => rfl)) ?_
  obtain ⟨r_11, hr_11, hr⟩ := bindS hr
  refine r_d rfl rfl rfl (s_callD rfl cl_terminate_Next (.cons rfl (Wk.full _) (.cons rfl (Wk.refl _) .nil)) (lg_terminate_Next _ _ _ hr_11)) ?_
  refine r_d rfl rfl rfl (s_move rfl rfl) ?_
  refine r_d rfl rfl rfl (s_extract rfl rfl rfl) ?_
  refine r_d rfl rfl rfl (s_extract rfl rfl rfl) ?_
  refine r_d rfl rfl rfl (s_assign rfl rfl) ?_
  refine r_d rfl rfl rfl (s_assign rfl rfl) ?_
  refine r_end ?_
  refine g_seq ?_
  refine g_run (by kernel_rfl) [(0, .d), (1, .d), (2, .d), (3, .d), (4, .d), (5, .d), (6, .d), (7, .d), (8, .d), (9, .d), (10, .d), (11, .d), (12, .d), (13, .d), (14, .d), (15, .d), (16, .d), (17, .d), (18, .d), (19, .d), (20, .d), (21, .d), (22, .d), (23, .d), (24, .d), (25, .d), (26, .d), (27, .d), (28, .d), (29, .d), (30, .d), (31, .d), (32, .d), (33, .d), (34, .d), (35, .d), (36, .d), (37, .d), (38, .d), (39, .d), (40, .d), (41, .d), (42, .d)] rfl ?_
  refine r_d rfl rfl rfl (s_move rfl rfl) ?_
  refine r_d rfl rfl rfl (s_cmp rfl rfl rfl rfl) ?_
  refine r_d rfl rfl rfl (s_move rfl rfl) ?_
  refine r_sB 50 rfl hr (fun h50_11 hr => ?_) (fun h50_11 hr => ?_)
  ·
    refine r_d rfl rfl rfl (s_move rfl rfl) ?_
    refine r_d rfl rfl rfl (m_lit (f := (D.int .i64)) [.const (.int .i64 (1))] [1] rfl el_L_int rfl rfl (by decide) (by decide) (.cons rfl (Wk.refl _) .nil) (fun _ => rfl) (fun _ => rfl)) ?_
    refine r_d rfl rfl rfl (s_build rfl bt_api_Rank (.cons rfl (Wk.refl _) (.cons rfl (Wk.full _) .nil)) (.cons rfl rfl rfl (.cons rfl rfl rfl (.nil _)))) ?_
    refine r_d rfl rfl rfl (m_lit (f := (D.int .i64)) [.const (.int .i64 (0))] [0] rfl el_L_int rfl rfl (by decide) (by decide) (.cons rfl (Wk.refl _) .nil) (fun _ => rfl) (fun _ => rfl)) ?_
    refine r_d rfl rfl rfl (s_build rfl bt_api_Rank (.cons rfl (Wk.refl _) (.cons rfl (Wk.full _) .nil)) (.cons rfl rfl rfl (.cons rfl rfl rfl (.nil _)))) ?_
    refine r_d rfl rfl rfl (m_lit (f := enc_S_api_Rank) [.tmp 53, .tmp 55] [(⟨⟨#[112]⟩, 0, [1]⟩ : S_api_Rank), (⟨⟨#[113]⟩, 0, [0]⟩ : S_api_Rank)] rfl el_L_api_Rank rfl rfl (by decide) (by decide) (.cons rfl (Wk.refl _) (.cons rfl (Wk.refl _) .nil)) sz_S_api_Rank (fun _ => rfl)) ?_
    obtain ⟨r_13, hr_13, hr⟩ := bindS hr
    refine r_d rfl rfl rfl (s_callD rfl cl_constraintref42_Same (.cons rfl (Wk.refl _) (.cons rfl (Wk.full _) .nil)) (lg_constraintref42_Same _ _ _ hr_13)) ?_
    refine r_d rfl rfl rfl (s_pickT rfl rfl rfl) ?_
    refine r_d rfl rfl rfl (s_move rfl rfl) ?_
    refine r_sB 59 rfl hr (fun h59_13 hr => ?_) (fun h59_13 hr => ?_)
    ·
      refine r_d rfl rfl rfl (s_move rfl rfl) ?_
      refine r_d rfl rfl rfl (s_cmp rfl rfl rfl rfl) ?_
      refine r_d rfl rfl rfl (s_pickT rfl rfl rfl) ?_
      refine r_d rfl rfl rfl (s_move rfl rfl) ?_
      refine r_sB 63 rfl hr (fun h63_14 hr => ?_) (fun h63_14 hr => ?_)
      ·
        refine r_d rfl rfl rfl (s_move rfl rfl) ?_
        refine r_d rfl rfl rfl (m_lit (f := (D.int .i64)) [.const (.int .i64 (1))] [1] rfl el_L_int rfl rfl (by decide) (by decide) (.cons rfl (Wk.refl _) .nil) (fun _ => rfl) (fun _ => rfl)) ?_
        refine r_d rfl rfl rfl (s_build rfl bt_api_Rank (.cons rfl (Wk.refl _) (.cons rfl (Wk.full _) .nil)) (.cons rfl rfl rfl (.cons rfl rfl rfl (.nil _)))) ?_
        refine r_d rfl rfl rfl (m_lit (f := enc_S_api_Rank) [.tmp 66] [(⟨⟨#[112]⟩, 0, [1]⟩ : S_api_Rank)] rfl el_L_api_Rank rfl rfl (by decide) (by decide) (.cons rfl (Wk.refl _) .nil) sz_S_api_Rank (fun _ => rfl)) ?_
        obtain ⟨r_16, hr_16, hr⟩ := bindS hr
        refine r_d rfl rfl rfl (s_callD rfl cl_constraintref42_Same (.cons rfl (Wk.refl _) (.cons rfl (Wk.full _) .nil)) (lg_constraintref42_Same _ _ _ hr_16)) ?_
        refine r_d rfl rfl rfl (s_pickT rfl rfl rfl) ?_
        refine r_d rfl rfl rfl (s_move rfl rfl) ?_
        refine r_sB 70 rfl hr (fun h70_16 hr => ?_) (fun h70_16 hr => ?_)
        ·
          refine r_d rfl rfl rfl (s_move rfl rfl) ?_
          refine r_d rfl rfl rfl (s_pickT rfl rfl rfl) ?_
          refine r_d rfl rfl rfl (s_move rfl rfl) ?_
          refine r_sB 73 rfl hr (fun h73_17 hr => ?_) (fun h73_17 hr => ?_)
          ·
            refine r_d rfl rfl rfl (s_move rfl rfl) ?_
            refine r_d rfl rfl rfl (m_lit (f := (D.int .i64)) [.const (.int .i64 (1)), .const (.int .i64 (0)), .const (.int .i64 (0))] [1, 0, 0] rfl el_L_int rfl rfl (by decide) (by decide) (.cons rfl (Wk.refl _) (.cons rfl (Wk.refl _) (.cons rfl (Wk.refl _) .nil))) (fun _ => rfl) (fun _ => rfl)) ?_
            obtain ⟨r_19, hr_19, hr⟩ := bindS hr
            refine r_d rfl rfl rfl (s_callD rfl cl_constraintref03_SameInts (.cons rfl (Wk.refl _) (.cons rfl (Wk.full _) .nil)) (lg_constraintref03_SameInts _ _ _ hr_19)) ?_
            refine r_d rfl rfl rfl (s_pickT rfl rfl rfl) ?_
            refine r_d rfl rfl rfl (s_move rfl rfl) ?_
            refine r_sB 78 rfl hr (fun h78_19 hr => ?_) (fun h78_19 hr => ?_)
            ·
              refine r_d rfl rfl rfl (s_move rfl rfl) ?_
              refine r_d rfl rfl rfl (s_not rfl rfl) ?_
              refine r_d rfl rfl rfl (s_pickT rfl rfl rfl) ?_
              refine r_d rfl rfl rfl (s_move rfl rfl) ?_
              refine r_sB 82 rfl hr (fun h82_20 hr => ?_) (fun h82_20 hr => ?_)
              ·
                refine r_d rfl rfl rfl (s_build rfl bt_api_Decl (.cons rfl (Wk.refl _) (.cons rfl (Wk.refl _) .nil)) (.cons rfl rfl rfl (.cons rfl rfl rfl (.nil _)))) ?_
                refine r_d rfl rfl rfl (m_lit (f := enc_S_api_Decl) [.tmp 83] [(⟨⟨#[112]⟩, 2⟩ : S_api_Decl)] rfl el_L_api_Decl rfl rfl (by decide) (by decide) (.cons rfl (Wk.refl _) .nil) sz_S_api_Decl (fun _ => rfl)) ?_
                refine r_d rfl rfl rfl (m_lit (f := (D.int .i64)) [.const (.int .i64 (1))] [1] rfl el_L_int rfl rfl (by decide) (by decide) (.cons rfl (Wk.refl _) .nil) (fun _ => rfl) (fun _ => rfl)) ?_
                obtain ⟨r_22, hr_22, hr⟩ := bindS hr
                refine r_d rfl rfl rfl (s_callD rfl cl_terminate_Ranks (.cons rfl (Wk.full _) (.cons rfl (Wk.full _) .nil)) (lg_terminate_Ranks _ _ _ hr_22)) ?_
                refine r_d rfl rfl rfl (m_len (f := enc_S_api_Rank) r_22 rfl el_L_api_Rank rfl (asl rfl)) ?_
                refine r_d rfl rfl rfl (s_cmp rfl rfl rfl rfl) ?_
                refine r_d rfl rfl rfl (s_pickT rfl rfl rfl) ?_
                refine r_d rfl rfl rfl (s_assign rfl rfl) ?_
                refine r_end ?_
                obtain rfl := Option.some.inj hr
                refine g_ret Try.func8 _ (.cons (resTmp rfl (Wk.refl _)) .nil) ?_
                rfl
              ·
                refine r_skip rfl rfl rfl ?_
                refine r_skip rfl rfl rfl ?_
                refine r_skip rfl rfl rfl ?_
                refine r_skip rfl rfl rfl ?_
                refine r_skip rfl rfl rfl ?_
                refine r_skip rfl rfl rfl ?_
                refine r_d rfl rfl rfl (s_pickF rfl rfl rfl) ?_
                refine r_d rfl rfl rfl (s_assign rfl rfl) ?_
                refine r_end ?_
                obtain rfl := Option.some.inj hr
                refine g_ret Try.func8 _ (.cons (resTmp rfl (Wk.refl _)) .nil) ?_
                rfl
            ·
              refine r_skip rfl rfl rfl ?_
              refine r_skip rfl rfl rfl ?_
              refine r_d rfl rfl rfl (s_pickF rfl rfl rfl) ?_
              refine r_d rfl rfl rfl (s_move rfl rfl) ?_
              refine r_skip rfl rfl rfl ?_
              refine r_skip rfl rfl rfl ?_
              refine r_skip rfl rfl rfl ?_
              refine r_skip rfl rfl rfl ?_
              refine r_skip rfl rfl rfl ?_
              refine r_skip rfl rfl rfl ?_
              refine r_d rfl rfl rfl (s_pickF rfl rfl rfl) ?_
              refine r_d rfl rfl rfl (s_assign rfl rfl) ?_
              refine r_end ?_
              obtain rfl := Option.some.inj hr
              refine g_ret Try.func8 _ (.cons (resTmp rfl (Wk.refl _)) .nil) ?_
              rfl
          ·
            refine r_skip rfl rfl rfl ?_
            refine r_skip rfl rfl rfl ?_
            refine r_skip rfl rfl rfl ?_
            refine r_d rfl rfl rfl (s_pickF rfl rfl rfl) ?_
            refine r_d rfl rfl rfl (s_move rfl rfl) ?_
            refine r_skip rfl rfl rfl ?_
            refine r_skip rfl rfl rfl ?_
            refine r_d rfl rfl rfl (s_pickF rfl rfl rfl) ?_
            refine r_d rfl rfl rfl (s_move rfl rfl) ?_
            refine r_skip rfl rfl rfl ?_
            refine r_skip rfl rfl rfl ?_
            refine r_skip rfl rfl rfl ?_
            refine r_skip rfl rfl rfl ?_
            refine r_skip rfl rfl rfl ?_
            refine r_skip rfl rfl rfl ?_
            refine r_d rfl rfl rfl (s_pickF rfl rfl rfl) ?_
            refine r_d rfl rfl rfl (s_assign rfl rfl) ?_
            refine r_end ?_
            obtain rfl := Option.some.inj hr
            refine g_ret Try.func8 _ (.cons (resTmp rfl (Wk.refl _)) .nil) ?_
            rfl
        ·
          refine r_skip rfl rfl rfl ?_
          refine r_d rfl rfl rfl (s_pickF rfl rfl rfl) ?_
          refine r_d rfl rfl rfl (s_move rfl rfl) ?_
          refine r_skip rfl rfl rfl ?_
          refine r_skip rfl rfl rfl ?_
          refine r_skip rfl rfl rfl ?_
          refine r_d rfl rfl rfl (s_pickF rfl rfl rfl) ?_
          refine r_d rfl rfl rfl (s_move rfl rfl) ?_
          refine r_skip rfl rfl rfl ?_
          refine r_skip rfl rfl rfl ?_
          refine r_d rfl rfl rfl (s_pickF rfl rfl rfl) ?_
          refine r_d rfl rfl rfl (s_move rfl rfl) ?_
          refine r_skip rfl rfl rfl ?_
          refine r_skip rfl rfl rfl ?_
          refine r_skip rfl rfl rfl ?_
          refine r_skip rfl rfl rfl ?_
          refine r_skip rfl rfl rfl ?_
          refine r_skip rfl rfl rfl ?_
          refine r_d rfl rfl rfl (s_pickF rfl rfl rfl) ?_
          refine r_d rfl rfl rfl (s_assign rfl rfl) ?_
          refine r_end ?_
          obtain rfl := Option.some.inj hr
          refine g_ret Try.func8 _ (.cons (resTmp rfl (Wk.refl _)) .nil) ?_
          rfl
      ·
        refine r_skip rfl rfl rfl ?_
        refine r_skip rfl rfl rfl ?_
        refine r_skip rfl rfl rfl ?_
        refine r_skip rfl rfl rfl ?_
        refine r_skip rfl rfl rfl ?_
        refine r_d rfl rfl rfl (s_pickF rfl rfl rfl) ?_
        refine r_d rfl rfl rfl (s_move rfl rfl) ?_
        refine r_skip rfl rfl rfl ?_
        refine r_d rfl rfl rfl (s_pickF rfl rfl rfl) ?_
        refine r_d rfl rfl rfl (s_move rfl rfl) ?_
        refine r_skip rfl rfl rfl ?_
        refine r_skip rfl rfl rfl ?_
        refine r_skip rfl rfl rfl ?_
        refine r_d rfl rfl rfl (s_pickF rfl rfl rfl) ?_
        refine r_d rfl rfl rfl (s_move rfl rfl) ?_
        refine r_skip rfl rfl rfl ?_
        refine r_skip rfl rfl rfl ?_
        refine r_d rfl rfl rfl (s_pickF rfl rfl rfl) ?_
        refine r_d rfl rfl rfl (s_move rfl rfl) ?_
        refine r_skip rfl rfl rfl ?_
        refine r_skip rfl rfl rfl ?_
        refine r_skip rfl rfl rfl ?_
        refine r_skip rfl rfl rfl ?_
        refine r_skip rfl rfl rfl ?_
        refine r_skip rfl rfl rfl ?_
        refine r_d rfl rfl rfl (s_pickF rfl rfl rfl) ?_
        refine r_d rfl rfl rfl (s_assign rfl rfl) ?_
        refine r_end ?_
        obtain rfl := Option.some.inj hr
        refine g_ret Try.func8 _ (.cons (resTmp rfl (Wk.refl _)) .nil) ?_
        rfl
    ·
      refine r_skip rfl rfl rfl ?_
      refine r_skip rfl rfl rfl ?_
      refine r_d rfl rfl rfl (s_pickF rfl rfl rfl) ?_
      refine r_d rfl rfl rfl (s_move rfl rfl) ?_
      refine r_skip rfl rfl rfl ?_
      refine r_skip rfl rfl rfl ?_
      refine r_skip rfl rfl rfl ?_
      refine r_skip rfl rfl rfl ?_
      refine r_skip rfl rfl rfl ?_
      refine r_d rfl rfl rfl (s_pickF rfl rfl rfl) ?_
      refine r_d rfl rfl rfl (s_move rfl rfl) ?_
      refine r_skip rfl rfl rfl ?_
      refine r_d rfl rfl rfl (s_pickF rfl rfl rfl) ?_
      refine r_d rfl rfl rfl (s_move rfl rfl) ?_
      refine r_skip rfl rfl rfl ?_
      refine r_skip rfl rfl rfl ?_
      refine r_skip rfl rfl rfl ?_
      refine r_d rfl rfl rfl (s_pickF rfl rfl rfl) ?_
      refine r_d rfl rfl rfl (s_move rfl rfl) ?_
      refine r_skip rfl rfl rfl ?_
      refine r_skip rfl rfl rfl ?_
      refine r_d rfl rfl rfl (s_pickF rfl rfl rfl) ?_
      refine r_d rfl rfl rfl (s_move rfl rfl) ?_
      refine r_skip rfl rfl rfl ?_
      refine r_skip rfl rfl rfl ?_
      refine r_skip rfl rfl rfl ?_
      refine r_skip rfl rfl rfl ?_
      refine r_skip rfl rfl rfl ?_
      refine r_skip rfl rfl rfl ?_
      refine r_d rfl rfl rfl (s_pickF rfl rfl rfl) ?_
      refine r_d rfl rfl rfl (s_assign rfl rfl) ?_
      refine r_end ?_
      obtain rfl := Option.some.inj hr
      refine g_ret Try.func8 _ (.cons (resTmp rfl (Wk.refl _)) .nil) ?_
      rfl
  ·
    refine r_skip rfl rfl rfl ?_
    refine r_skip rfl rfl rfl ?_
    refine r_skip rfl rfl rfl ?_
    refine r_skip rfl rfl rfl ?_
    refine r_skip rfl rfl rfl ?_
    refine r_skip rfl rfl rfl ?_
    refine r_skip rfl rfl rfl ?_
    refine r_d rfl rfl rfl (s_pickF rfl rfl rfl) ?_
    refine r_d rfl rfl rfl (s_move rfl rfl) ?_
    refine r_skip rfl rfl rfl ?_
    refine r_skip rfl rfl rfl ?_
    refine r_d rfl rfl rfl (s_pickF rfl rfl rfl) ?_
    refine r_d rfl rfl rfl (s_move rfl rfl) ?_
    refine r_skip rfl rfl rfl ?_
    refine r_skip rfl rfl rfl ?_
    refine r_skip rfl rfl rfl ?_
    refine r_skip rfl rfl rfl ?_
    refine r_skip rfl rfl rfl ?_
    refine r_d rfl rfl rfl (s_pickF rfl rfl rfl) ?_
    refine r_d rfl rfl rfl (s_move rfl rfl) ?_
    refine r_skip rfl rfl rfl ?_
    refine r_d rfl rfl rfl (s_pickF rfl rfl rfl) ?_
    refine r_d rfl rfl rfl (s_move rfl rfl) ?_
    refine r_skip rfl rfl rfl ?_
    refine r_skip rfl rfl rfl ?_
    refine r_skip rfl rfl rfl ?_
    refine r_d rfl rfl rfl (s_pickF rfl rfl rfl) ?_
    refine r_d rfl rfl rfl (s_move rfl rfl) ?_
    refine r_skip rfl rfl rfl ?_
    refine r_skip rfl rfl rfl ?_
    refine r_d rfl rfl rfl (s_pickF rfl rfl rfl) ?_
    refine r_d rfl rfl rfl (s_move rfl rfl) ?_
    refine r_skip rfl rfl rfl ?_
    refine r_skip rfl rfl rfl ?_
    refine r_skip rfl rfl rfl ?_
    refine r_skip rfl rfl rfl ?_
    refine r_skip rfl rfl rfl ?_
    refine r_skip rfl rfl rfl ?_
    refine r_d rfl rfl rfl (s_pickF rfl rfl rfl) ?_
    refine r_d rfl rfl rfl (s_assign rfl rfl) ?_
    refine r_end ?_
    obtain rfl := Option.some.inj hr
    refine g_ret Try.func8 _ (.cons (resTmp rfl (Wk.refl _)) .nil) ?_
    rfl

noncomputable def lf_constraintref42_Next_L1 (k : ((List Int)) → Option ((List Int) × Bool)) : Nat → (List Int) → Option ((List Int) × Bool)
  | 0, out_15 =>
  (k out_15)
  | rest + 1, out_15 =>
  ((appO 8 out_15 [0]).bind fun l_19 =>
  (lf_constraintref42_Next_L1 k rest l_19))

noncomputable def lf_constraintref42_Next_L0 (k : (Int) → Option ((List Int) × Bool)) (most_a1 : Int) : List Int → Int → Nat → Option ((List Int) × Bool)
  | [], at_2, i_3 =>
  (k at_2)
  | q_21 :: rest, at_2, i_3 =>
  (bif (decide (q_21 < (0 : Int))) then
  some ([], false)
  else
  (bif (decide (q_21 > most_a1)) then
  some ([], false)
  else
  (bif (decide (q_21 < most_a1)) then
  (lf_constraintref42_Next_L0 k most_a1 rest (i_3 : Int) (i_3 + 1))
  else
  (lf_constraintref42_Next_L0 k most_a1 rest at_2 (i_3 + 1)))))
noncomputable def lf_constraintref42_Next (digits_a0 : (List Int)) (most_a1 : Int) : Option ((List Int) × Bool) :=
  (lf_constraintref42_Next_L0 (fun at_4 =>
  (bif (decide (at_4 < (0 : Int))) then
  some ([], false)
  else
  ((subO digits_a0 0 at_4).bind fun l_8 =>
  ((appO 8 [] l_8).bind fun l_9 =>
  ((getI digits_a0 at_4).bind fun q_11 =>
  ((appO 8 l_9 [(wr (q_11 + (1 : Int)))]).bind fun l_12 =>
  (lf_constraintref42_Next_L1 (fun out_18 =>
  some (out_18, true)) ((digits_a0.length : Int) - (wr (at_4 + (1 : Int)))).toNat l_12))))))) most_a1 digits_a0 (-1) 0)

set_option maxHeartbeats 1000000 in
theorem lg_constraintref42_Next (digits_a0 : (List Int)) (most_a1 : Int) (res : (List Int) × Bool) (hr : lf_constraintref42_Next digits_a0 most_a1 = some res) : Gives Try.prog 13 [.lst (digits_a0.map (D.int .i64)), .int .i64 most_a1] (.tup [.lst (res.1.map (D.int .i64)), .bool res.2]) := by
  unfold lf_constraintref42_Next at hr
  refine spec_env [(0, .lst (digits_a0.map (D.int .i64))), (1, .int .i64 most_a1)] Try.func13 rfl rfl fun K hK => ?_
  refine g_seq ?_
  refine g_run (by kernel_rfl) [(0, .w), (1, .d)] rfl ?_
  refine r_w rfl rfl rfl (s_nilOwn 3 1 (.inl rfl)) ?_
  rintro _ _ ⟨u4_0, rfl, rfl⟩
  refine r_d rfl rfl rfl (s_assign rfl rfl) ?_
  refine r_end ?_
  refine g_seq ?_
  refine g_run (by kernel_rfl) [(0, .d)] rfl ?_
  refine r_d rfl rfl rfl (s_assign rfl rfl) ?_
  refine r_end ?_
  refine g_seq ?_
  refine g_seq ?_
  refine g_run (by kernel_rfl) [(0, .d)] rfl ?_
  refine r_d rfl rfl rfl (s_assign rfl rfl) ?_
  refine r_end ?_
  obtain ⟨kk0, hkk0, hr⟩ := exK (fun k => lf_constraintref42_Next_L0 k most_a1 digits_a0 (-1) 0) hr
  refine g_len 0 rfl (asl rfl) fun hla0 => ?_
  simp only [List.length_map] at hla0
  refine g_blockJ (fun env σ => ∃ (at_4 : Int), env = [(0, .lst (digits_a0.map (D.int .i64))), (6, .int .i64 at_4)] ∧ σ = [] ∧ kk0 at_4 = some res) ?_ (fun HK0 => ?_)
  ·
    rintro _ _ ⟨at_4, rfl, rfl, hr⟩
    rw [hkk0] at hr
    refine g_seq ?_
    refine g_seq ?_
    refine g_run (by kernel_rfl) [(0, .d), (1, .d)] rfl ?_
    refine r_d rfl rfl rfl (s_move rfl rfl) ?_
    refine r_d rfl rfl rfl (s_cmp rfl rfl rfl rfl) ?_
    refine r_end ?_
    refine g_sB 37 rfl hr (fun h37_4 hr => ?_) (fun h37_4 hr => ?_)
    ·
      refine g_condT rfl ?_
      refine g_seq ?_
      refine g_run (by kernel_rfl) [(0, .w), (1, .d)] rfl ?_
      refine r_w rfl rfl rfl (s_nilOwn 3 1 (.inl rfl)) ?_
      rintro _ _ ⟨u4_5, rfl, rfl⟩
      refine r_d rfl rfl rfl (s_assign rfl rfl) ?_
      refine r_end ?_
      obtain rfl := Option.some.inj hr
      refine g_ret Try.func13 _ (.cons (resTmp rfl (Wk.own _ _)) (.cons (resTmp rfl (Wk.refl _)) .nil)) ?_
      rfl
    ·
      refine g_condF rfl ?_
      refine g_skip ?_
      refine g_seq ?_
      refine g_run (by kernel_rfl) [(0, .w)] rfl ?_
      refine r_w rfl rfl rfl (s_nilOwn 3 1 (.inl rfl)) ?_
      rintro _ _ ⟨u8_6, rfl, rfl⟩
      refine r_end ?_
      refine g_seq ?_
      refine g_run (by kernel_rfl) [(0, .d), (1, .d), (2, .d), (3, .d), (4, .w), (5, .d)] rfl ?_
      refine r_d rfl rfl rfl (s_move rfl rfl) ?_
      refine r_d rfl rfl rfl (s_move rfl rfl) ?_
      refine r_d rfl rfl rfl (s_move rfl rfl) ?_
      obtain ⟨l_8, hl_8, hr⟩ := bindS hr
      refine r_d rfl rfl rfl (m_sub (f := (D.int .i64)) digits_a0 0 at_4 rfl el_L_int rfl (asl rfl) bl_none (bh_some rfl) (fun _ => rfl) hl_8) ?_
      obtain ⟨l_9, hl_9, hr⟩ := bindS hr
      refine r_w rfl rfl rfl (m_appOwn (f := (D.int .i64)) [] l_8 rfl el_L_int rfl rfl (asl rfl) (pf0 _) rfl (fun _ => rfl) hl_9) ?_
      rintro _ _ ⟨u42_9, rfl, rfl⟩
      refine r_d rfl rfl rfl (s_assign rfl rfl) ?_
      refine r_end ?_
      refine g_seq ?_
      refine g_run (by kernel_rfl) [(0, .d), (1, .d), (2, .d), (3, .d), (4, .d), (5, .d), (6, .d), (7, .w), (8, .d)] rfl ?_
      refine r_d rfl rfl rfl (s_move rfl rfl) ?_
      refine r_d rfl rfl rfl (s_move rfl rfl) ?_
      refine r_d rfl rfl rfl (s_move rfl rfl) ?_
      obtain ⟨q_11, hq_11, hr⟩ := bindS hr
      refine r_d rfl rfl rfl (m_index (f := (D.int .i64)) digits_a0 rfl el_L_int rfl (asl rfl) rfl hq_11 (fun _ => rfl) rfl) ?_
      refine r_d rfl rfl rfl (s_load rfl rfl (by exact ty_int) rfl) ?_
      refine r_d rfl rfl rfl (s_arW rfl rfl rfl rfl) ?_
      refine r_d rfl rfl rfl (m_lit (f := (D.int .i64)) [.tmp 48] [(wr (q_11 + (1 : Int)))] rfl el_L_int rfl rfl (by decide) (by decide) (.cons rfl (Wk.refl _) .nil) (fun _ => rfl) (fun _ => rfl)) ?_
      obtain ⟨l_12, hl_12, hr⟩ := bindS hr
      refine r_w rfl rfl rfl (m_appOwn (f := (D.int .i64)) l_9 [(wr (q_11 + (1 : Int)))] rfl el_L_int rfl rfl (asl rfl) (pf0 _) rfl (fun _ => rfl) hl_12) ?_
      rintro _ _ ⟨u50_12, rfl, rfl⟩
      refine r_d rfl rfl rfl (s_assign rfl rfl) ?_
      refine r_end ?_
      refine g_seq ?_
      refine g_seq ?_
      refine g_run (by kernel_rfl) [(0, .d), (1, .d), (2, .d)] rfl ?_
      refine r_d rfl rfl rfl (s_move rfl rfl) ?_
      refine r_d rfl rfl rfl (s_arW rfl rfl rfl rfl) ?_
      refine r_d rfl rfl rfl (s_assign rfl rfl) ?_
      refine r_end ?_
      obtain ⟨kk1, hkk1, hr⟩ := exK (fun k => lf_constraintref42_Next_L1 k ((digits_a0.length : Int) - (wr (at_4 + (1 : Int)))).toNat l_12) hr
      refine g_blockJ (fun env σ => ∃ (out_18 : (List Int)) (u_17 : Value), env = [(8, .own u_17 (out_18.map (D.int .i64)))] ∧ σ = [.row u_17 out_18.length 3 1] ∧ kk1 out_18 = some res) ?_ (fun HK1 => ?_)
      ·
        rintro _ _ ⟨out_18, u_17, rfl, rfl, hr⟩
        rw [hkk1] at hr
        refine g_seq ?_
        refine g_run (by kernel_rfl) [(0, .d), (1, .d), (2, .d)] rfl ?_
        refine r_d rfl rfl rfl (s_move rfl rfl) ?_
        refine r_d rfl rfl rfl (s_assign rfl rfl) ?_
        refine r_d rfl rfl rfl (s_assign rfl rfl) ?_
        refine r_end ?_
        obtain rfl := Option.some.inj hr
        refine g_ret Try.func13 _ (.cons (resTmp rfl (Wk.own _ _)) (.cons (resTmp rfl (Wk.refl _)) .nil)) ?_
        rfl
      ·
        refine g_sub [(0, .lst (digits_a0.map (D.int .i64))), (8, .own u50_12 (l_12.map (D.int .i64))), (9, .int .i64 (wr (at_4 + (1 : Int))))] (Sub.cons' rfl (Sub.cons' rfl (Sub.cons' rfl (Sub.nil _)))) ?_
        refine g_loop (fun n env σ => ∃ (out_15 : (List Int)) (i_16 : Int) (u_14 : Value) (m1 : Nat), (m1 = n) ∧ (env = [(0, .lst (digits_a0.map (D.int .i64))), (8, .own u_14 (out_15.map (D.int .i64))), (9, .int .i64 i_16)]) ∧ (σ = [.row u_14 out_15.length 3 1]) ∧ (m1 = ((digits_a0.length : Int) - i_16).toNat) ∧ (lf_constraintref42_Next_L1 kk1 m1 out_15 = some res)) _ ⟨l_12, (wr (at_4 + (1 : Int))), u50_12, _, rfl, rfl, rfl, rfl, hr⟩ ?_
        rintro n _ _ ⟨out_15, i_16, u_14, m1, rfl, rfl, rfl, hi1, hr⟩ IH1
        refine g_int 9 rfl fun hb1 => ?_
        rcases cntStep i_16 (digits_a0.length : Int) m1 hi1 with ⟨hm1, ht1⟩ | ⟨m1', hm1, ht1, hi1', hlt1⟩
        ·
          rw [hm1, lf_constraintref42_Next_L1] at hr
          refine g_seq ?_
          refine g_seq ?_
          refine g_run (by kernel_rfl) [(0, .d), (1, .d), (2, .d), (3, .d)] rfl ?_
          refine r_d rfl rfl rfl (s_move rfl rfl) ?_
          refine r_d rfl rfl rfl (s_move rfl rfl) ?_
          refine r_d rfl rfl rfl (m_len (f := (D.int .i64)) digits_a0 rfl el_L_int rfl (asl rfl)) ?_
          refine r_d rfl rfl rfl (s_cmp rfl rfl rfl rfl) ?_
          refine r_end ?_
          refine g_known 56 false rfl ht1 ?_
          refine g_condF rfl ?_
          refine g_exit rfl ?_
          refine g_sub [(8, .own u_14 (out_15.map (D.int .i64)))] (Sub.cons' rfl (Sub.nil _)) ?_
          exact HK1 _ _ ⟨out_15, u_14, rfl, rfl, hr⟩
        ·
          rw [hm1, lf_constraintref42_Next_L1] at hr
          refine g_seq ?_
          refine g_seq ?_
          refine g_run (by kernel_rfl) [(0, .d), (1, .d), (2, .d), (3, .d)] rfl ?_
          refine r_d rfl rfl rfl (s_move rfl rfl) ?_
          refine r_d rfl rfl rfl (s_move rfl rfl) ?_
          refine r_d rfl rfl rfl (m_len (f := (D.int .i64)) digits_a0 rfl el_L_int rfl (asl rfl)) ?_
          refine r_d rfl rfl rfl (s_cmp rfl rfl rfl rfl) ?_
          refine r_end ?_
          refine g_known 56 true rfl ht1 ?_
          refine g_condT rfl ?_
          refine g_skip ?_
          refine g_seq ?_
          refine g_block ?_
          refine g_run (by kernel_rfl) [(0, .d), (1, .d), (2, .w), (3, .d)] rfl ?_
          refine r_d rfl rfl rfl (s_move rfl rfl) ?_
          refine r_d rfl rfl rfl (m_lit (f := (D.int .i64)) [.const (.int .i64 (0))] [0] rfl el_L_int rfl rfl (by decide) (by decide) (.cons rfl (Wk.refl _) .nil) (fun _ => rfl) (fun _ => rfl)) ?_
          obtain ⟨l_19, hl_19, hr⟩ := bindS hr
          refine r_w rfl rfl rfl (m_appOwn (f := (D.int .i64)) out_15 [0] rfl el_L_int rfl rfl (asl rfl) (pf0 _) rfl (fun _ => rfl) hl_19) ?_
          rintro _ _ ⟨u61_19, rfl, rfl⟩
          refine r_d rfl rfl rfl (s_assign rfl rfl) ?_
          refine r_end ?_
          refine g_inBlock ?_
          refine g_run (by kernel_rfl) [(0, .d), (1, .d), (2, .d)] rfl ?_
          refine r_d rfl rfl rfl (s_move rfl rfl) ?_
          refine r_d rfl rfl rfl (s_ar (r := i_16 + 1) rfl rfl rfl rfl (by omega)) ?_
          refine r_d rfl rfl rfl (s_assign rfl rfl) ?_
          refine r_end ?_
          refine g_sub [(0, .lst (digits_a0.map (D.int .i64))), (8, .own u61_19 (l_19.map (D.int .i64))), (9, .int .i64 (i_16 + 1))] (Sub.cons' rfl (Sub.cons' rfl (Sub.cons' rfl (Sub.nil _)))) ?_
          exact IH1 _ _ _ (by omega) ⟨l_19, (i_16 + 1), u61_19, _, rfl, rfl, rfl, hi1', hr⟩
  ·
    refine g_sub [(0, .lst (digits_a0.map (D.int .i64))), (1, .int .i64 most_a1), (6, .int .i64 (-1)), (7, .int .i64 ((0 : Nat) : Int))] (Sub.cons' rfl (Sub.cons' rfl (Sub.cons' rfl (Sub.cons' rfl (Sub.nil _))))) ?_
    refine g_perm [] _ (pf0 _) ?_
    refine g_loop (fun n env σ => ∃ (at_2 : Int) (i_3 : Nat), (n = digits_a0.length - i_3) ∧ (env = [(0, .lst (digits_a0.map (D.int .i64))), (1, .int .i64 most_a1), (6, .int .i64 at_2), (7, .int .i64 (i_3 : Int))]) ∧ (σ = []) ∧ (i_3 ≤ digits_a0.length) ∧ (lf_constraintref42_Next_L0 kk0 most_a1 (digits_a0.drop i_3) at_2 i_3 = some res)) _ ⟨(-1), 0, rfl, rfl, rfl, Nat.zero_le _, hr⟩ ?_
    rintro n _ _ ⟨at_2, i_3, rfl, rfl, rfl, hi0, hr⟩ IH0
    rcases listStep digits_a0 i_3 hi0 with ⟨ht0, hd0, he0⟩ | ⟨q_21, ht0, hd0, hq0, hlt0⟩
    ·
      rw [hd0, lf_constraintref42_Next_L0] at hr
      refine g_seq ?_
      refine g_seq ?_
      refine g_run (by kernel_rfl) [(0, .d), (1, .d), (2, .d), (3, .d)] rfl ?_
      refine r_d rfl rfl rfl (s_move rfl rfl) ?_
      refine r_d rfl rfl rfl (s_move rfl rfl) ?_
      refine r_d rfl rfl rfl (m_len (f := (D.int .i64)) digits_a0 rfl el_L_int rfl (asl rfl)) ?_
      refine r_d rfl rfl rfl (s_cmp rfl rfl rfl rfl) ?_
      refine r_end ?_
      refine g_known 13 false rfl ht0 ?_
      refine g_condF rfl ?_
      refine g_exit rfl ?_
      refine g_sub [(0, .lst (digits_a0.map (D.int .i64))), (6, .int .i64 at_2)] (Sub.cons' rfl (Sub.cons' rfl (Sub.nil _))) ?_
      exact HK0 _ _ ⟨at_2, rfl, rfl, hr⟩
    ·
      rw [hd0, lf_constraintref42_Next_L0] at hr
      refine g_seq ?_
      refine g_seq ?_
      refine g_run (by kernel_rfl) [(0, .d), (1, .d), (2, .d), (3, .d)] rfl ?_
      refine r_d rfl rfl rfl (s_move rfl rfl) ?_
      refine r_d rfl rfl rfl (s_move rfl rfl) ?_
      refine r_d rfl rfl rfl (m_len (f := (D.int .i64)) digits_a0 rfl el_L_int rfl (asl rfl)) ?_
      refine r_d rfl rfl rfl (s_cmp rfl rfl rfl rfl) ?_
      refine r_end ?_
      refine g_known 13 true rfl ht0 ?_
      refine g_condT rfl ?_
      refine g_skip ?_
      refine g_seq ?_
      refine g_block ?_
      refine g_seq ?_
      refine g_seq ?_
      refine g_run (by kernel_rfl) [(0, .d), (1, .d), (2, .d), (3, .d), (4, .d), (5, .d), (6, .d), (7, .d), (8, .d), (9, .d), (10, .d), (11, .d), (12, .d)] rfl ?_
      refine r_d rfl rfl rfl (s_move rfl rfl) ?_
      refine r_d rfl rfl rfl (s_move rfl rfl) ?_
      refine r_d rfl rfl rfl (m_index (f := (D.int .i64)) digits_a0 rfl el_L_int rfl (asl rfl) rfl hq0 (fun _ => rfl) rfl) ?_
      refine r_d rfl rfl rfl (s_load rfl rfl (by exact ty_int) rfl) ?_
      refine r_d rfl rfl rfl (s_cmp rfl rfl rfl rfl) ?_
      refine r_d rfl rfl rfl (s_move rfl rfl) ?_
      refine r_sB 21 rfl hr (fun h21_21 hr => ?_) (fun h21_21 hr => ?_)
      ·
        refine r_skip rfl rfl rfl ?_
        refine r_skip rfl rfl rfl ?_
        refine r_skip rfl rfl rfl ?_
        refine r_skip rfl rfl rfl ?_
        refine r_skip rfl rfl rfl ?_
        refine r_skip rfl rfl rfl ?_
        refine r_d rfl rfl rfl (s_pickT rfl rfl rfl) ?_
        refine r_end ?_
        refine g_condT rfl ?_
        refine g_seq ?_
        refine g_run (by kernel_rfl) [(0, .w), (1, .d)] rfl ?_
        refine r_w rfl rfl rfl (s_nilOwn 3 1 (.inl rfl)) ?_
        rintro _ _ ⟨u4_22, rfl, rfl⟩
        refine r_d rfl rfl rfl (s_assign rfl rfl) ?_
        refine r_end ?_
        obtain rfl := Option.some.inj hr
        refine g_ret Try.func13 _ (.cons (resTmp rfl (Wk.own _ _)) (.cons (resTmp rfl (Wk.refl _)) .nil)) ?_
        rfl
      ·
        refine r_d rfl rfl rfl (s_move rfl rfl) ?_
        refine r_d rfl rfl rfl (s_move rfl rfl) ?_
        refine r_d rfl rfl rfl (m_index (f := (D.int .i64)) digits_a0 rfl el_L_int rfl (asl rfl) rfl hq0 (fun _ => rfl) rfl) ?_
        refine r_d rfl rfl rfl (s_load rfl rfl (by exact ty_int) rfl) ?_
        refine r_d rfl rfl rfl (s_move rfl rfl) ?_
        refine r_d rfl rfl rfl (s_cmp rfl rfl rfl rfl) ?_
        refine r_d rfl rfl rfl (s_pickF rfl rfl rfl) ?_
        refine r_end ?_
        refine g_sB 28 rfl hr (fun h28_23 hr => ?_) (fun h28_23 hr => ?_)
        ·
          refine g_condT rfl ?_
          refine g_seq ?_
          refine g_run (by kernel_rfl) [(0, .w), (1, .d)] rfl ?_
          refine r_w rfl rfl rfl (s_nilOwn 3 1 (.inl rfl)) ?_
          rintro _ _ ⟨u4_24, rfl, rfl⟩
          refine r_d rfl rfl rfl (s_assign rfl rfl) ?_
          refine r_end ?_
          obtain rfl := Option.some.inj hr
          refine g_ret Try.func13 _ (.cons (resTmp rfl (Wk.own _ _)) (.cons (resTmp rfl (Wk.refl _)) .nil)) ?_
          rfl
        ·
          refine g_condF rfl ?_
          refine g_skip ?_
          refine g_seq ?_
          refine g_run (by kernel_rfl) [(0, .d), (1, .d), (2, .d), (3, .d), (4, .d), (5, .d)] rfl ?_
          refine r_d rfl rfl rfl (s_move rfl rfl) ?_
          refine r_d rfl rfl rfl (s_move rfl rfl) ?_
          refine r_d rfl rfl rfl (m_index (f := (D.int .i64)) digits_a0 rfl el_L_int rfl (asl rfl) rfl hq0 (fun _ => rfl) rfl) ?_
          refine r_d rfl rfl rfl (s_load rfl rfl (by exact ty_int) rfl) ?_
          refine r_d rfl rfl rfl (s_move rfl rfl) ?_
          refine r_d rfl rfl rfl (s_cmp rfl rfl rfl rfl) ?_
          refine r_end ?_
          refine g_sB 34 rfl hr (fun h34_25 hr => ?_) (fun h34_25 hr => ?_)
          ·
            refine g_condT rfl ?_
            refine g_run (by kernel_rfl) [(0, .d), (1, .d)] rfl ?_
            refine r_d rfl rfl rfl (s_move rfl rfl) ?_
            refine r_d rfl rfl rfl (s_assign rfl rfl) ?_
            refine r_end ?_
            refine g_inBlock ?_
            refine g_run (by kernel_rfl) [(0, .d), (1, .d), (2, .d)] rfl ?_
            refine r_d rfl rfl rfl (s_move rfl rfl) ?_
            refine r_d rfl rfl rfl (s_ar (r := ((i_3 + 1 : Nat) : Int)) rfl rfl rfl (by simp [iar]) (by omega)) ?_
            refine r_d rfl rfl rfl (s_assign rfl rfl) ?_
            refine r_end ?_
            refine g_sub [(0, .lst (digits_a0.map (D.int .i64))), (1, .int .i64 most_a1), (6, .int .i64 (i_3 : Int)), (7, .int .i64 ((i_3 + 1 : Nat) : Int))] (Sub.cons' rfl (Sub.cons' rfl (Sub.cons' rfl (Sub.cons' rfl (Sub.nil _))))) ?_
            exact IH0 _ _ _ (by omega) ⟨(i_3 : Int), (i_3 + 1), rfl, rfl, rfl, (by omega), hr⟩
          ·
            refine g_condF rfl ?_
            refine g_skip ?_
            refine g_inBlock ?_
            refine g_run (by kernel_rfl) [(0, .d), (1, .d), (2, .d)] rfl ?_
            refine r_d rfl rfl rfl (s_move rfl rfl) ?_
            refine r_d rfl rfl rfl (s_ar (r := ((i_3 + 1 : Nat) : Int)) rfl rfl rfl (by simp [iar]) (by omega)) ?_
            refine r_d rfl rfl rfl (s_assign rfl rfl) ?_
            refine r_end ?_
            refine g_sub [(0, .lst (digits_a0.map (D.int .i64))), (1, .int .i64 most_a1), (6, .int .i64 at_2), (7, .int .i64 ((i_3 + 1 : Nat) : Int))] (Sub.cons' rfl (Sub.cons' rfl (Sub.cons' rfl (Sub.cons' rfl (Sub.nil _))))) ?_
            exact IH0 _ _ _ (by omega) ⟨at_2, (i_3 + 1), rfl, rfl, rfl, (by omega), hr⟩

noncomputable def lf_constraintref42_digit (l_a0 : (List Int)) (k_a1 : Int) : Option (Int) :=
  (bif (decide (k_a1 < (l_a0.length : Int))) then
  ((getI l_a0 k_a1).bind fun q_2 =>
  some (q_2))
  else
  some (0))

set_option maxHeartbeats 1000000 in
theorem lg_constraintref42_digit (l_a0 : (List Int)) (k_a1 : Int) (res : Int) (hr : lf_constraintref42_digit l_a0 k_a1 = some res) : Gives Try.prog 29 [.lst (l_a0.map (D.int .i64)), .int .i64 k_a1] (.int .i64 res) := by
  unfold lf_constraintref42_digit at hr
  refine spec_env [(0, .lst (l_a0.map (D.int .i64))), (1, .int .i64 k_a1)] Try.func29 rfl rfl fun K hK => ?_
  refine g_seq ?_
  refine g_run (by kernel_rfl) [(0, .d)] rfl ?_
  refine r_d rfl rfl rfl (s_assign rfl rfl) ?_
  refine r_end ?_
  refine g_seq ?_
  refine g_seq ?_
  refine g_run (by kernel_rfl) [(0, .d), (1, .d), (2, .d), (3, .d)] rfl ?_
  refine r_d rfl rfl rfl (s_move rfl rfl) ?_
  refine r_d rfl rfl rfl (s_move rfl rfl) ?_
  refine r_d rfl rfl rfl (m_len (f := (D.int .i64)) l_a0 rfl el_L_int rfl (asl rfl)) ?_
  refine r_d rfl rfl rfl (s_cmp rfl rfl rfl rfl) ?_
  refine r_end ?_
  refine g_sB 8 rfl hr (fun h8_0 hr => ?_) (fun h8_0 hr => ?_)
  ·
    refine g_condT rfl ?_
    refine g_seq ?_
    refine g_run (by kernel_rfl) [(0, .d), (1, .d), (2, .d), (3, .d), (4, .d)] rfl ?_
    refine r_d rfl rfl rfl (s_move rfl rfl) ?_
    refine r_d rfl rfl rfl (s_move rfl rfl) ?_
    obtain ⟨q_2, hq_2, hr⟩ := bindS hr
    refine r_d rfl rfl rfl (m_index (f := (D.int .i64)) l_a0 rfl el_L_int rfl (asl rfl) rfl hq_2 (fun _ => rfl) rfl) ?_
    refine r_d rfl rfl rfl (s_load rfl rfl (by exact ty_int) rfl) ?_
    refine r_d rfl rfl rfl (s_assign rfl rfl) ?_
    refine r_end ?_
    obtain rfl := Option.some.inj hr
    refine g_ret Try.func29 _ (.cons (resTmp rfl (Wk.refl _)) .nil) ?_
    rfl
  ·
    refine g_condF rfl ?_
    refine g_skip ?_
    refine g_seq ?_
    refine g_run (by kernel_rfl) [(0, .d)] rfl ?_
    refine r_d rfl rfl rfl (s_assign rfl rfl) ?_
    refine r_end ?_
    obtain rfl := Option.some.inj hr
    refine g_ret Try.func29 _ (.cons (resTmp rfl (Wk.refl _)) .nil) ?_
    rfl

noncomputable def lf_constraintref42_Ranks_L1 (k : (Int) → (ByteArray) → (Int) → ((List Int)) → Option ((List S_api_Rank))) (digits_a1 : (List Int)) : Nat → Int → ByteArray → Int → (List Int) → Option ((List S_api_Rank))
  | 0, k_14, x_16, x_17, x_18 =>
  (k k_14 x_16 x_17 x_18)
  | rest + 1, k_14, x_16, x_17, x_18 =>
  ((lf_constraintref42_digit digits_a1 k_14).bind fun r_27 =>
  ((appO 8 x_18 [r_27]).bind fun l_28 =>
  (lf_constraintref42_Ranks_L1 k digits_a1 rest (wr (k_14 + (1 : Int))) x_16 x_17 l_28)))

noncomputable def lf_constraintref42_Ranks_L0 (k : ((List S_api_Rank)) → Option ((List S_api_Rank))) (digits_a1 : (List Int)) : List S_api_Decl → (List S_api_Rank) → Int → Option ((List S_api_Rank))
  | [], out_4, k_5 =>
  (k out_4)
  | q_9 :: rest, out_4, k_5 =>
  ((lf_constraintref42_digit digits_a1 k_5).bind fun r_10 =>
  (lf_constraintref42_Ranks_L1 (fun k_20 x_22 x_23 x_24 =>
  ((appO 48 out_4 [(⟨x_22, x_23, x_24⟩ : S_api_Rank)]).bind fun l_25 =>
  (lf_constraintref42_Ranks_L0 k digits_a1 rest l_25 k_20))) digits_a1 ((min64 q_9.f1_Arity (6 : Int)) - 0).toNat (wr (k_5 + (1 : Int))) q_9.f0_Name r_10 []))
noncomputable def lf_constraintref42_Ranks (decls_a0 : (List S_api_Decl)) (digits_a1 : (List Int)) : Option ((List S_api_Rank)) :=
  (lf_constraintref42_Ranks_L0 (fun out_8 =>
  some (out_8)) digits_a1 decls_a0 [] 0)

set_option maxHeartbeats 1000000 in
theorem lg_constraintref42_Ranks (decls_a0 : (List S_api_Decl)) (digits_a1 : (List Int)) (res : (List S_api_Rank)) (hr : lf_constraintref42_Ranks decls_a0 digits_a1 = some res) : Gives Try.prog 16 [.lst (decls_a0.map enc_S_api_Decl), .lst (digits_a1.map (D.int .i64))] (.lst (res.map enc_S_api_Rank)) := by
  unfold lf_constraintref42_Ranks at hr
  refine spec_env [(0, .lst (decls_a0.map enc_S_api_Decl)), (1, .lst (digits_a1.map (D.int .i64)))] Try.func16 rfl rfl fun K hK => ?_
  refine g_seq ?_
  refine g_run (by kernel_rfl) [(0, .w)] rfl ?_
  refine r_w rfl rfl rfl (s_nilOwn 56 3 (.inl rfl)) ?_
  rintro _ _ ⟨u4_0, rfl, rfl⟩
  refine r_end ?_
  refine g_seq ?_
  refine g_run (by kernel_rfl) [(0, .w)] rfl ?_
  refine r_w rfl rfl rfl (s_nilOwn 56 3 (.inl rfl)) ?_
  rintro _ _ ⟨u5_1, rfl, rfl⟩
  refine r_end ?_
  refine g_seq ?_
  refine g_run (by kernel_rfl) [(0, .d)] rfl ?_
  refine r_d rfl rfl rfl (s_assign rfl rfl) ?_
  refine r_end ?_
  refine g_seq ?_
  refine g_seq ?_
  refine g_run (by kernel_rfl) [(0, .d)] rfl ?_
  refine r_d rfl rfl rfl (s_assign rfl rfl) ?_
  refine r_end ?_
  obtain ⟨kk0, hkk0, hr⟩ := exK (fun k => lf_constraintref42_Ranks_L0 k digits_a1 decls_a0 [] 0) hr
  refine g_len 0 rfl (asl rfl) fun hla0 => ?_
  simp only [List.length_map] at hla0
  refine g_blockJ (fun env σ => ∃ (out_8 : (List S_api_Rank)) (u_7 : Value), env = [(5, .own u_7 (out_8.map enc_S_api_Rank))] ∧ σ = [.row u_7 out_8.length 56 3] ∧ kk0 out_8 = some res) ?_ (fun HK0 => ?_)
  ·
    rintro _ _ ⟨out_8, u_7, rfl, rfl, hr⟩
    rw [hkk0] at hr
    refine g_seq ?_
    refine g_run (by kernel_rfl) [(0, .d), (1, .d)] rfl ?_
    refine r_d rfl rfl rfl (s_move rfl rfl) ?_
    refine r_d rfl rfl rfl (s_assign rfl rfl) ?_
    refine r_end ?_
    obtain rfl := Option.some.inj hr
    refine g_ret Try.func16 _ (.cons (resTmp rfl (Wk.own _ _)) .nil) ?_
    rfl
  ·
    refine g_sub [(0, .lst (decls_a0.map enc_S_api_Decl)), (1, .lst (digits_a1.map (D.int .i64))), (5, .own u5_1 ([].map enc_S_api_Rank)), (6, .int .i64 0), (7, .int .i64 ((0 : Nat) : Int))] (Sub.cons' rfl (Sub.cons' rfl (Sub.cons' rfl (Sub.cons' rfl (Sub.cons' rfl (Sub.nil _)))))) ?_
    refine g_perm [_] _ (pf0 _) ?_
    refine g_loop (fun n env σ => ∃ (out_4 : (List S_api_Rank)) (k_5 : Int) (i_6 : Nat) (u_3 : Value), (n = decls_a0.length - i_6) ∧ (env = [(0, .lst (decls_a0.map enc_S_api_Decl)), (1, .lst (digits_a1.map (D.int .i64))), (5, .own u_3 (out_4.map enc_S_api_Rank)), (6, .int .i64 k_5), (7, .int .i64 (i_6 : Int))]) ∧ (σ = [.row u_3 out_4.length 56 3]) ∧ (i_6 ≤ decls_a0.length) ∧ (lf_constraintref42_Ranks_L0 kk0 digits_a1 (decls_a0.drop i_6) out_4 k_5 = some res)) _ ⟨[], 0, 0, u5_1, rfl, rfl, rfl, Nat.zero_le _, hr⟩ ?_
    rintro n _ _ ⟨out_4, k_5, i_6, u_3, rfl, rfl, rfl, hi0, hr⟩ IH0
    rcases listStep decls_a0 i_6 hi0 with ⟨ht0, hd0, he0⟩ | ⟨q_9, ht0, hd0, hq0, hlt0⟩
    ·
      rw [hd0, lf_constraintref42_Ranks_L0] at hr
      refine g_seq ?_
      refine g_seq ?_
      refine g_run (by kernel_rfl) [(0, .d), (1, .d), (2, .d), (3, .d)] rfl ?_
      refine r_d rfl rfl rfl (s_move rfl rfl) ?_
      refine r_d rfl rfl rfl (s_move rfl rfl) ?_
      refine r_d rfl rfl rfl (m_len (f := enc_S_api_Decl) decls_a0 rfl el_L_api_Decl rfl (asl rfl)) ?_
      refine r_d rfl rfl rfl (s_cmp rfl rfl rfl rfl) ?_
      refine r_end ?_
      refine g_known 13 false rfl ht0 ?_
      refine g_condF rfl ?_
      refine g_exit rfl ?_
      refine g_sub [(5, .own u_3 (out_4.map enc_S_api_Rank))] (Sub.cons' rfl (Sub.nil _)) ?_
      exact HK0 _ _ ⟨out_4, u_3, rfl, rfl, hr⟩
    ·
      rw [hd0, lf_constraintref42_Ranks_L0] at hr
      refine g_seq ?_
      refine g_seq ?_
      refine g_run (by kernel_rfl) [(0, .d), (1, .d), (2, .d), (3, .d)] rfl ?_
      refine r_d rfl rfl rfl (s_move rfl rfl) ?_
      refine r_d rfl rfl rfl (s_move rfl rfl) ?_
      refine r_d rfl rfl rfl (m_len (f := enc_S_api_Decl) decls_a0 rfl el_L_api_Decl rfl (asl rfl)) ?_
      refine r_d rfl rfl rfl (s_cmp rfl rfl rfl rfl) ?_
      refine r_end ?_
      refine g_known 13 true rfl ht0 ?_
      refine g_condT rfl ?_
      refine g_skip ?_
      refine g_seq ?_
      refine g_block ?_
      refine g_seq ?_
      refine g_nilRow 3 1 ?_
      refine g_any (by kernel_rfl) (by kernel_rfl) [(0, .d), (1, .d), (2, .d), (3, .d), (4, .d), (5, .d), (6, .d), (7, .d), (8, .d), (9, .w), (10, .w)] (by kernel_rfl) ?_
      refine r_d rfl rfl rfl (s_move rfl rfl) ?_
      refine r_d rfl rfl rfl (s_move rfl rfl) ?_
      refine r_d rfl rfl rfl (m_index (f := enc_S_api_Decl) decls_a0 rfl el_L_api_Decl rfl (asl rfl) rfl hq0 sz_S_api_Decl rfl) ?_
      refine r_d rfl rfl rfl (s_fieldAddr rfl fl_api_Decl_0 rfl rfl rfl rfl) ?_
      refine r_d rfl rfl rfl (s_load rfl rfl (by exact ty_string) rfl) ?_
      refine r_d rfl rfl rfl (s_move rfl rfl) ?_
      refine r_d rfl rfl rfl (s_move rfl rfl) ?_
      obtain ⟨r_10, hr_10, hr⟩ := bindS hr
      refine r_d rfl rfl rfl (s_callD rfl cl_constraintref42_digit (.cons rfl (Wk.refl _) (.cons rfl (Wk.refl _) .nil)) (lg_constraintref42_digit _ _ _ hr_10)) ?_
      refine r_d rfl rfl rfl (s_build rfl bo_api_Rank_2 (.cons rfl (Wk.refl _) (.cons rfl (Wk.refl _) .nil)) (.cons rfl rfl rfl (.cons rfl rfl rfl (.nil _)))) ?_
      refine r_w rfl rfl rfl (s_alloc rfl zv_api_Rank) ?_
      rintro _ _ ⟨b8_10, rfl, rfl⟩
      refine r_w01 rfl rfl rfl (t_store0 _ rfl rfl rfl (Wk.refl _) (pf0 _) (by exact ty_api_Rank) rfl rfl rfl) ?_
      refine r_end ?_
      refine g_seq ?_
      refine g_run (by kernel_rfl) [(0, .d), (1, .d), (2, .d)] rfl ?_
      refine r_d rfl rfl rfl (s_move rfl rfl) ?_
      refine r_d rfl rfl rfl (s_arW rfl rfl rfl rfl) ?_
      refine r_d rfl rfl rfl (s_assign rfl rfl) ?_
      refine r_end ?_
      refine g_seq ?_
      refine g_seq ?_
      refine g_run (by kernel_rfl) [(0, .d)] rfl ?_
      refine r_d rfl rfl rfl (s_assign rfl rfl) ?_
      refine r_end ?_
      obtain ⟨kk1, hkk1, hr⟩ := exK (fun k => lf_constraintref42_Ranks_L1 k digits_a1 ((min64 q_9.f1_Arity (6 : Int)) - 0).toNat (wr (k_5 + (1 : Int))) q_9.f0_Name r_10 []) hr
      have hla1 : (min64 q_9.f1_Arity (6 : Int)) ≤ 6 := by rw [min64_eq]; omega
      refine g_blockJ (fun env σ => ∃ (k_20 : Int) (x_22 : ByteArray) (x_23 : Int) (x_24 : (List Int)) (u_19 : Value) (u_21 : Value), env = [(0, .lst (decls_a0.map enc_S_api_Decl)), (1, .lst (digits_a1.map (D.int .i64))), (5, .own u_19 (out_4.map enc_S_api_Rank)), (6, .int .i64 k_20), (7, .int .i64 (i_6 : Int)), (8, .ref b8_10 0 [])] ∧ σ = [.row u_19 out_4.length 56 3, .cell b8_10 (.agg [.str x_22, .int .i64 x_23, .own u_21 (x_24.map (D.int .i64))]), .row u_21 x_24.length 3 1] ∧ kk1 k_20 x_22 x_23 x_24 = some res) ?_ (fun HK1 => ?_)
      ·
        rintro _ _ ⟨k_20, x_22, x_23, x_24, u_19, u_21, rfl, rfl, hr⟩
        rw [hkk1] at hr
        refine g_run (by kernel_rfl) [(0, .d), (1, .r), (2, .d), (3, .w), (4, .d)] rfl ?_
        refine r_d rfl rfl rfl (s_move rfl rfl) ?_
        refine r_r rfl rfl rfl (t_loadRef rfl rfl (.tail _ (.head _)) rfl rfl (by exact ty_api_Rank) rfl) ?_
        refine r_d rfl rfl rfl (m_lit (f := enc_S_api_Rank) [.tmp 48] [(⟨x_22, x_23, x_24⟩ : S_api_Rank)] rfl el_L_api_Rank rfl rfl (by decide) (by decide) (.cons rfl (Wk.agg (.cons (Wk.refl _) (.cons (Wk.refl _) (.cons (Wk.own _ _) .nil)))) .nil) sz_S_api_Rank (fun _ => rfl)) ?_
        obtain ⟨l_25, hl_25, hr⟩ := bindS hr
        refine r_w rfl rfl rfl (m_appOwn (f := enc_S_api_Rank) out_4 [(⟨x_22, x_23, x_24⟩ : S_api_Rank)] rfl el_L_api_Rank rfl rfl (asl rfl) (pf0 _) rfl sz_S_api_Rank hl_25) ?_
        rintro _ _ ⟨u50_25, rfl, rfl⟩
        refine r_d rfl rfl rfl (s_assign rfl rfl) ?_
        refine r_end ?_
        refine g_inBlock ?_
        refine g_run (by kernel_rfl) [(0, .d), (1, .d), (2, .d)] rfl ?_
        refine r_d rfl rfl rfl (s_move rfl rfl) ?_
        refine r_d rfl rfl rfl (s_ar (r := ((i_6 + 1 : Nat) : Int)) rfl rfl rfl (by simp [iar]) (by omega)) ?_
        refine r_d rfl rfl rfl (s_assign rfl rfl) ?_
        refine r_end ?_
        refine g_sub [(0, .lst (decls_a0.map enc_S_api_Decl)), (1, .lst (digits_a1.map (D.int .i64))), (5, .own u50_25 (l_25.map enc_S_api_Rank)), (6, .int .i64 k_20), (7, .int .i64 ((i_6 + 1 : Nat) : Int))] (Sub.cons' rfl (Sub.cons' rfl (Sub.cons' rfl (Sub.cons' rfl (Sub.cons' rfl (Sub.nil _)))))) ?_
        refine g_perm [_] _ (pf0 _) ?_
        exact IH0 _ _ _ (by omega) ⟨l_25, k_20, (i_6 + 1), u50_25, rfl, rfl, rfl, (by omega), hr⟩
      ·
        refine g_sub [(0, .lst (decls_a0.map enc_S_api_Decl)), (1, .lst (digits_a1.map (D.int .i64))), (5, .own u_3 (out_4.map enc_S_api_Rank)), (7, .int .i64 ((i_6 : Nat) : Int)), (8, .ref b8_10 0 []), (6, .int .i64 (wr (k_5 + (1 : Int)))), (9, .int .i64 0)] (Sub.cons' rfl (Sub.cons' rfl (Sub.cons' rfl (Sub.cons' rfl (Sub.cons' rfl (Sub.cons' rfl (Sub.cons' rfl (Sub.nil _)))))))) ?_
        refine g_perm [_, _, _] _ (((pf1 _ _ _).trans (pf1 _ _ _)).trans (pf2 _ _ _ _)) ?_
        refine g_loop (fun n env σ => ∃ (k_14 : Int) (j_15 : Int) (x_16 : ByteArray) (x_17 : Int) (x_18 : (List Int)) (u_12 : Value) (u_13 : Value) (m1 : Nat), (m1 = n) ∧ (env = [(0, .lst (decls_a0.map enc_S_api_Decl)), (1, .lst (digits_a1.map (D.int .i64))), (5, .own u_12 (out_4.map enc_S_api_Rank)), (7, .int .i64 (i_6 : Int)), (8, .ref b8_10 0 []), (6, .int .i64 k_14), (9, .int .i64 j_15)]) ∧ (σ = [.row u_12 out_4.length 56 3, .cell b8_10 (.agg [.str x_16, .int .i64 x_17, .own u_13 (x_18.map (D.int .i64))]), .row u_13 x_18.length 3 1]) ∧ (m1 = ((min64 q_9.f1_Arity (6 : Int)) - j_15).toNat) ∧ (lf_constraintref42_Ranks_L1 kk1 digits_a1 m1 k_14 x_16 x_17 x_18 = some res)) _ ⟨(wr (k_5 + (1 : Int))), 0, q_9.f0_Name, r_10, [], u_3, (.slice none 0 0 ), _, rfl, rfl, rfl, rfl, hr⟩ ?_
        rintro n _ _ ⟨k_14, j_15, x_16, x_17, x_18, u_12, u_13, m1, rfl, rfl, rfl, hi1, hr⟩ IH1
        refine g_int 9 rfl fun hb1 => ?_
        rcases cntStep j_15 (min64 q_9.f1_Arity (6 : Int)) m1 hi1 with ⟨hm1, ht1⟩ | ⟨m1', hm1, ht1, hi1', hlt1⟩
        ·
          rw [hm1, lf_constraintref42_Ranks_L1] at hr
          refine g_seq ?_
          refine g_seq ?_
          refine g_run (by kernel_rfl) [(0, .d), (1, .d), (2, .d), (3, .d), (4, .d), (5, .d), (6, .d), (7, .d)] rfl ?_
          refine r_d rfl rfl rfl (s_move rfl rfl) ?_
          refine r_d rfl rfl rfl (s_move rfl rfl) ?_
          refine r_d rfl rfl rfl (s_move rfl rfl) ?_
          refine r_d rfl rfl rfl (m_index (f := enc_S_api_Decl) decls_a0 rfl el_L_api_Decl rfl (asl rfl) rfl hq0 sz_S_api_Decl rfl) ?_
          refine r_d rfl rfl rfl (s_fieldAddr rfl fl_api_Decl_1 rfl rfl rfl rfl) ?_
          refine r_d rfl rfl rfl (s_load rfl rfl (by exact ty_int) rfl) ?_
          refine r_d rfl rfl rfl (s_min rfl rfl rfl) ?_
          refine r_d rfl rfl rfl (s_cmp rfl rfl rfl rfl) ?_
          refine r_end ?_
          refine g_known 34 false rfl ht1 ?_
          refine g_condF rfl ?_
          refine g_exit rfl ?_
          refine g_sub [(0, .lst (decls_a0.map enc_S_api_Decl)), (1, .lst (digits_a1.map (D.int .i64))), (5, .own u_12 (out_4.map enc_S_api_Rank)), (6, .int .i64 k_14), (7, .int .i64 (i_6 : Int)), (8, .ref b8_10 0 [])] (Sub.cons' rfl (Sub.cons' rfl (Sub.cons' rfl (Sub.cons' rfl (Sub.cons' rfl (Sub.cons' rfl (Sub.nil _))))))) ?_
          exact HK1 _ _ ⟨k_14, x_16, x_17, x_18, u_12, u_13, rfl, rfl, hr⟩
        ·
          rw [hm1, lf_constraintref42_Ranks_L1] at hr
          refine g_seq ?_
          refine g_seq ?_
          refine g_run (by kernel_rfl) [(0, .d), (1, .d), (2, .d), (3, .d), (4, .d), (5, .d), (6, .d), (7, .d)] rfl ?_
          refine r_d rfl rfl rfl (s_move rfl rfl) ?_
          refine r_d rfl rfl rfl (s_move rfl rfl) ?_
          refine r_d rfl rfl rfl (s_move rfl rfl) ?_
          refine r_d rfl rfl rfl (m_index (f := enc_S_api_Decl) decls_a0 rfl el_L_api_Decl rfl (asl rfl) rfl hq0 sz_S_api_Decl rfl) ?_
          refine r_d rfl rfl rfl (s_fieldAddr rfl fl_api_Decl_1 rfl rfl rfl rfl) ?_
          refine r_d rfl rfl rfl (s_load rfl rfl (by exact ty_int) rfl) ?_
          refine r_d rfl rfl rfl (s_min rfl rfl rfl) ?_
          refine r_d rfl rfl rfl (s_cmp rfl rfl rfl rfl) ?_
          refine r_end ?_
          refine g_known 34 true rfl ht1 ?_
          refine g_condT rfl ?_
          refine g_skip ?_
          refine g_seq ?_
          refine g_block ?_
          refine g_seq ?_
          refine g_any (by kernel_rfl) (by kernel_rfl) [(0, .d), (1, .r), (2, .d), (3, .d), (4, .d), (5, .d), (6, .w), (7, .d), (8, .w)] (by kernel_rfl) ?_
          refine r_d rfl rfl rfl (s_fieldRef rfl fl_api_Rank_2 rfl) ?_
          refine r_r rfl rfl rfl (t_loadRef rfl rfl (.tail _ (.head _)) rfl rfl (by exact ty_L_int) rfl) ?_
          refine r_d rfl rfl rfl (s_move rfl rfl) ?_
          refine r_d rfl rfl rfl (s_move rfl rfl) ?_
          obtain ⟨r_27, hr_27, hr⟩ := bindS hr
          refine r_d rfl rfl rfl (s_callD rfl cl_constraintref42_digit (.cons rfl (Wk.refl _) (.cons rfl (Wk.refl _) .nil)) (lg_constraintref42_digit _ _ _ hr_27)) ?_
          refine r_d rfl rfl rfl (m_lit (f := (D.int .i64)) [.tmp 41] [r_27] rfl el_L_int rfl rfl (by decide) (by decide) (.cons rfl (Wk.refl _) .nil) (fun _ => rfl) (fun _ => rfl)) ?_
          obtain ⟨l_28, hl_28, hr⟩ := bindS hr
          refine r_w rfl rfl rfl (m_appOwn (f := (D.int .i64)) x_18 [r_27] rfl el_L_int rfl rfl (asl rfl) (pf2 _ _ _ _) rfl (fun _ => rfl) hl_28) ?_
          rintro _ _ ⟨u43_28, rfl, rfl⟩
          refine r_d rfl rfl rfl (s_fieldRef rfl fl_api_Rank_2 rfl) ?_
          refine r_w01 rfl rfl rfl (t_store _ rfl rfl rfl (Wk.refl _) (pf2 _ _ _ _) rfl rfl (by exact ty_L_int) rfl rfl rfl) ?_
          refine r_end ?_
          refine g_run (by kernel_rfl) [(0, .d), (1, .d), (2, .d)] rfl ?_
          refine r_d rfl rfl rfl (s_move rfl rfl) ?_
          refine r_d rfl rfl rfl (s_arW rfl rfl rfl rfl) ?_
          refine r_d rfl rfl rfl (s_assign rfl rfl) ?_
          refine r_end ?_
          refine g_inBlock ?_
          refine g_run (by kernel_rfl) [(0, .d), (1, .d), (2, .d)] rfl ?_
          refine r_d rfl rfl rfl (s_move rfl rfl) ?_
          refine r_d rfl rfl rfl (s_ar (r := j_15 + 1) rfl rfl rfl rfl (by omega)) ?_
          refine r_d rfl rfl rfl (s_assign rfl rfl) ?_
          refine r_end ?_
          refine g_sub [(0, .lst (decls_a0.map enc_S_api_Decl)), (1, .lst (digits_a1.map (D.int .i64))), (5, .own u_12 (out_4.map enc_S_api_Rank)), (7, .int .i64 ((i_6 : Nat) : Int)), (8, .ref b8_10 0 []), (6, .int .i64 (wr (k_14 + (1 : Int)))), (9, .int .i64 (j_15 + 1))] (Sub.cons' rfl (Sub.cons' rfl (Sub.cons' rfl (Sub.cons' rfl (Sub.cons' rfl (Sub.cons' rfl (Sub.cons' rfl (Sub.nil _)))))))) ?_
          refine g_perm [_, _, _] _ (((pf1 _ _ _).trans (pf1 _ _ _)).trans (pf2 _ _ _ _)) ?_
          exact IH1 _ _ _ (by omega) ⟨(wr (k_14 + (1 : Int))), (j_15 + 1), x_16, x_17, l_28, u_12, u43_28, _, rfl, rfl, rfl, hi1', hr⟩

noncomputable def lf_constraintlaw42_TerminateDigits (fuel : Nat) (decls_a0 : (List S_api_Decl)) (digits_a1 : (List Int)) (most_a2 : Int) : Option (Bool) :=
  (bif (decide ((decls_a0.length : Int) > (20 : Int))) then
  ((lf_constraintlaw42_exampleHolds fuel).bind fun r_2 =>
  some (r_2))
  else
  (bif (decide ((digits_a1.length : Int) > (20 : Int))) then
  ((lf_constraintlaw42_exampleHolds fuel).bind fun r_4 =>
  some (r_4))
  else
  ((lf_terminate_Next digits_a1 most_a2).bind fun r_5 =>
  ((lf_constraintref42_Next digits_a1 most_a2).bind fun r_6 =>
  (bif (r_5.2 == r_6.2) then
  ((lf_constraintref03_SameInts r_5.1 r_6.1).bind fun r_8 =>
  (bif r_8 then
  ((lf_terminate_Ranks decls_a0 digits_a1).bind fun r_10 =>
  ((lf_constraintref42_Ranks decls_a0 digits_a1).bind fun r_11 =>
  ((lf_constraintref42_Same r_10 r_11).bind fun r_12 =>
  (bif r_12 then
  ((lf_constraintlaw42_exampleHolds fuel).bind fun r_14 =>
  some (r_14))
  else
  some (false)))))
  else
  some (false)))
  else
  some (false))))))

set_option maxHeartbeats 1000000 in
theorem lg_constraintlaw42_TerminateDigits (fuel : Nat) (decls_a0 : (List S_api_Decl)) (digits_a1 : (List Int)) (most_a2 : Int) (res : Bool) (hr : lf_constraintlaw42_TerminateDigits fuel decls_a0 digits_a1 most_a2 = some res) : Gives Try.prog 4 [.lst (decls_a0.map enc_S_api_Decl), .lst (digits_a1.map (D.int .i64)), .int .i64 most_a2] (.bool res) := by
  unfold lf_constraintlaw42_TerminateDigits at hr
  refine spec_env [(0, .lst (decls_a0.map enc_S_api_Decl)), (1, .lst (digits_a1.map (D.int .i64))), (2, .int .i64 most_a2)] Try.func4 rfl rfl fun K hK => ?_
  refine g_seq ?_
  refine g_run (by kernel_rfl) [(0, .d)] rfl ?_
  refine r_d rfl rfl rfl (s_assign rfl rfl) ?_
  refine r_end ?_
  refine g_seq ?_
  refine g_seq ?_
  refine g_run (by kernel_rfl) [(0, .d), (1, .d), (2, .d), (3, .d), (4, .d), (5, .d), (6, .d), (7, .d)] rfl ?_
  refine r_d rfl rfl rfl (s_move rfl rfl) ?_
  refine r_d rfl rfl rfl (m_len (f := enc_S_api_Decl) decls_a0 rfl el_L_api_Decl rfl (asl rfl)) ?_
  refine r_d rfl rfl rfl (s_cmp rfl rfl rfl rfl) ?_
  refine r_d rfl rfl rfl (s_move rfl rfl) ?_
  refine r_sB 14 rfl hr (fun h14_0 hr => ?_) (fun h14_0 hr => ?_)
  ·
    refine r_skip rfl rfl rfl ?_
    refine r_skip rfl rfl rfl ?_
    refine r_skip rfl rfl rfl ?_
    refine r_d rfl rfl rfl (s_pickT rfl rfl rfl) ?_
    refine r_end ?_
    refine g_condT rfl ?_
    refine g_seq ?_
    refine g_run (by kernel_rfl) [(0, .d), (1, .d)] rfl ?_
    obtain ⟨r_2, hr_2, hr⟩ := bindS hr
    refine r_d rfl rfl rfl (s_callD rfl cl_constraintlaw42_exampleHolds .nil (lg_constraintlaw42_exampleHolds fuel _ hr_2)) ?_
    refine r_d rfl rfl rfl (s_assign rfl rfl) ?_
    refine r_end ?_
    obtain rfl := Option.some.inj hr
    refine g_ret Try.func4 _ (.cons (resTmp rfl (Wk.refl _)) .nil) ?_
    rfl
  ·
    refine r_d rfl rfl rfl (s_move rfl rfl) ?_
    refine r_d rfl rfl rfl (m_len (f := (D.int .i64)) digits_a1 rfl el_L_int rfl (asl rfl)) ?_
    refine r_d rfl rfl rfl (s_cmp rfl rfl rfl rfl) ?_
    refine r_d rfl rfl rfl (s_pickF rfl rfl rfl) ?_
    refine r_end ?_
    refine g_sB 18 rfl hr (fun h18_2 hr => ?_) (fun h18_2 hr => ?_)
    ·
      refine g_condT rfl ?_
      refine g_seq ?_
      refine g_run (by kernel_rfl) [(0, .d), (1, .d)] rfl ?_
      obtain ⟨r_4, hr_4, hr⟩ := bindS hr
      refine r_d rfl rfl rfl (s_callD rfl cl_constraintlaw42_exampleHolds .nil (lg_constraintlaw42_exampleHolds fuel _ hr_4)) ?_
      refine r_d rfl rfl rfl (s_assign rfl rfl) ?_
      refine r_end ?_
      obtain rfl := Option.some.inj hr
      refine g_ret Try.func4 _ (.cons (resTmp rfl (Wk.refl _)) .nil) ?_
      rfl
    ·
      refine g_condF rfl ?_
      refine g_skip ?_
      refine g_seq ?_
      refine g_run (by kernel_rfl) [(0, .d), (1, .d), (2, .d), (3, .d), (4, .d), (5, .d), (6, .d), (7, .d)] rfl ?_
      refine r_d rfl rfl rfl (s_move rfl rfl) ?_
      refine r_d rfl rfl rfl (s_move rfl rfl) ?_
      obtain ⟨r_5, hr_5, hr⟩ := bindS hr
      refine r_d rfl rfl rfl (s_callD rfl cl_terminate_Next (.cons rfl (Wk.refl _) (.cons rfl (Wk.refl _) .nil)) (lg_terminate_Next _ _ _ hr_5)) ?_
      refine r_d rfl rfl rfl (s_move rfl rfl) ?_
      refine r_d rfl rfl rfl (s_extract rfl rfl rfl) ?_
      refine r_d rfl rfl rfl (s_extract rfl rfl rfl) ?_
      refine r_d rfl rfl rfl (s_assign rfl rfl) ?_
      refine r_d rfl rfl rfl (s_assign rfl rfl) ?_
      refine r_end ?_
      refine g_seq ?_
      refine g_run (by kernel_rfl) [(0, .d), (1, .d), (2, .d), (3, .d), (4, .d), (5, .d), (6, .d), (7, .d)] rfl ?_
      refine r_d rfl rfl rfl (s_move rfl rfl) ?_
      refine r_d rfl rfl rfl (s_move rfl rfl) ?_
      obtain ⟨r_6, hr_6, hr⟩ := bindS hr
      refine r_d rfl rfl rfl (s_callD rfl cl_constraintref42_Next (.cons rfl (Wk.refl _) (.cons rfl (Wk.refl _) .nil)) (lg_constraintref42_Next _ _ _ hr_6)) ?_
      refine r_d rfl rfl rfl (s_move rfl rfl) ?_
      refine r_d rfl rfl rfl (s_extract rfl rfl rfl) ?_
      refine r_d rfl rfl rfl (s_extract rfl rfl rfl) ?_
      refine r_d rfl rfl rfl (s_assign rfl rfl) ?_
      refine r_d rfl rfl rfl (s_assign rfl rfl) ?_
      refine r_end ?_
      refine g_seq ?_
      refine g_run (by kernel_rfl) [(0, .d), (1, .d), (2, .d), (3, .d), (4, .d), (5, .d), (6, .d), (7, .d), (8, .d), (9, .d), (10, .d), (11, .d), (12, .d), (13, .d), (14, .d), (15, .d), (16, .d), (17, .d), (18, .d), (19, .d), (20, .d)] rfl ?_
      refine r_d rfl rfl rfl (s_move rfl rfl) ?_
      refine r_d rfl rfl rfl (s_move rfl rfl) ?_
      refine r_d rfl rfl rfl (s_cmpB rfl Try.underlying4 rfl rfl) ?_
      refine r_d rfl rfl rfl (s_move rfl rfl) ?_
      refine r_sB 35 rfl hr (fun h35_6 hr => ?_) (fun h35_6 hr => ?_)
      ·
        refine r_d rfl rfl rfl (s_move rfl rfl) ?_
        refine r_d rfl rfl rfl (s_move rfl rfl) ?_
        obtain ⟨r_8, hr_8, hr⟩ := bindS hr
        refine r_d rfl rfl rfl (s_callD rfl cl_constraintref03_SameInts (.cons rfl (Wk.refl _) (.cons rfl (Wk.refl _) .nil)) (lg_constraintref03_SameInts _ _ _ hr_8)) ?_
        refine r_d rfl rfl rfl (s_pickT rfl rfl rfl) ?_
        refine r_d rfl rfl rfl (s_move rfl rfl) ?_
        refine r_sB 40 rfl hr (fun h40_8 hr => ?_) (fun h40_8 hr => ?_)
        ·
          refine r_d rfl rfl rfl (s_move rfl rfl) ?_
          refine r_d rfl rfl rfl (s_move rfl rfl) ?_
          obtain ⟨r_10, hr_10, hr⟩ := bindS hr
          refine r_d rfl rfl rfl (s_callD rfl cl_terminate_Ranks (.cons rfl (Wk.refl _) (.cons rfl (Wk.refl _) .nil)) (lg_terminate_Ranks _ _ _ hr_10)) ?_
          refine r_d rfl rfl rfl (s_move rfl rfl) ?_
          refine r_d rfl rfl rfl (s_move rfl rfl) ?_
          obtain ⟨r_11, hr_11, hr⟩ := bindS hr
          refine r_d rfl rfl rfl (s_callD rfl cl_constraintref42_Ranks (.cons rfl (Wk.refl _) (.cons rfl (Wk.refl _) .nil)) (lg_constraintref42_Ranks _ _ _ hr_11)) ?_
          obtain ⟨r_12, hr_12, hr⟩ := bindS hr
          refine r_d rfl rfl rfl (s_callD rfl cl_constraintref42_Same (.cons rfl (Wk.refl _) (.cons rfl (Wk.refl _) .nil)) (lg_constraintref42_Same _ _ _ hr_12)) ?_
          refine r_d rfl rfl rfl (s_pickT rfl rfl rfl) ?_
          refine r_d rfl rfl rfl (s_move rfl rfl) ?_
          refine r_sB 49 rfl hr (fun h49_12 hr => ?_) (fun h49_12 hr => ?_)
          ·
            obtain ⟨r_14, hr_14, hr⟩ := bindS hr
            refine r_d rfl rfl rfl (s_callD rfl cl_constraintlaw42_exampleHolds .nil (lg_constraintlaw42_exampleHolds fuel _ hr_14)) ?_
            refine r_d rfl rfl rfl (s_pickT rfl rfl rfl) ?_
            refine r_d rfl rfl rfl (s_assign rfl rfl) ?_
            refine r_end ?_
            obtain rfl := Option.some.inj hr
            refine g_ret Try.func4 _ (.cons (resTmp rfl (Wk.refl _)) .nil) ?_
            rfl
          ·
            refine r_skip rfl rfl rfl ?_
            refine r_d rfl rfl rfl (s_pickF rfl rfl rfl) ?_
            refine r_d rfl rfl rfl (s_assign rfl rfl) ?_
            refine r_end ?_
            obtain rfl := Option.some.inj hr
            refine g_ret Try.func4 _ (.cons (resTmp rfl (Wk.refl _)) .nil) ?_
            rfl
        ·
          refine r_skip rfl rfl rfl ?_
          refine r_skip rfl rfl rfl ?_
          refine r_skip rfl rfl rfl ?_
          refine r_skip rfl rfl rfl ?_
          refine r_skip rfl rfl rfl ?_
          refine r_skip rfl rfl rfl ?_
          refine r_skip rfl rfl rfl ?_
          refine r_d rfl rfl rfl (s_pickF rfl rfl rfl) ?_
          refine r_d rfl rfl rfl (s_move rfl rfl) ?_
          refine r_skip rfl rfl rfl ?_
          refine r_d rfl rfl rfl (s_pickF rfl rfl rfl) ?_
          refine r_d rfl rfl rfl (s_assign rfl rfl) ?_
          refine r_end ?_
          obtain rfl := Option.some.inj hr
          refine g_ret Try.func4 _ (.cons (resTmp rfl (Wk.refl _)) .nil) ?_
          rfl
      ·
        refine r_skip rfl rfl rfl ?_
        refine r_skip rfl rfl rfl ?_
        refine r_skip rfl rfl rfl ?_
        refine r_d rfl rfl rfl (s_pickF rfl rfl rfl) ?_
        refine r_d rfl rfl rfl (s_move rfl rfl) ?_
        refine r_skip rfl rfl rfl ?_
        refine r_skip rfl rfl rfl ?_
        refine r_skip rfl rfl rfl ?_
        refine r_skip rfl rfl rfl ?_
        refine r_skip rfl rfl rfl ?_
        refine r_skip rfl rfl rfl ?_
        refine r_skip rfl rfl rfl ?_
        refine r_d rfl rfl rfl (s_pickF rfl rfl rfl) ?_
        refine r_d rfl rfl rfl (s_move rfl rfl) ?_
        refine r_skip rfl rfl rfl ?_
        refine r_d rfl rfl rfl (s_pickF rfl rfl rfl) ?_
        refine r_d rfl rfl rfl (s_assign rfl rfl) ?_
        refine r_end ?_
        obtain rfl := Option.some.inj hr
        refine g_ret Try.func4 _ (.cons (resTmp rfl (Wk.refl _)) .nil) ?_
        rfl

noncomputable def lf_constraintlaw42_TerminateVisits_L2 (k : (Int) → Option (Bool)) (r_16 : (List Int) × Bool) : List Int → Nat → Option (Bool)
  | [], at_18 =>
  (k (at_18 : Int))
  | q_25 :: rest, at_18 =>
  (bif (decide ((at_18 : Int) < (r_16.1.length : Int))) then
  ((getI r_16.1 (at_18 : Int)).bind fun q_27 =>
  (bif (q_25 == q_27) then
  (lf_constraintlaw42_TerminateVisits_L2 k r_16 rest (at_18 + 1))
  else
  (k (at_18 : Int))))
  else
  (k (at_18 : Int)))

noncomputable def lf_constraintlaw42_TerminateVisits_L1 (k : (Int) → Option (Bool)) (most_a1 : Int) (want_7 : Int) : Nat → Int → (List Int) → Option (Bool)
  | 0, visits_10, digits_11 =>
  none
  | rest + 1, visits_10, digits_11 =>
  (bif (decide (visits_10 ≤ want_7)) then
  ((lf_terminate_Next digits_11 (IntKind.i64.wrap most_a1)).bind fun r_16 =>
  (bif (!r_16.2) then
  (k visits_10)
  else
  (lf_constraintlaw42_TerminateVisits_L2 (fun at_19 =>
  (bif ((r_16.1.length : Int) != (digits_11.length : Int)) then
  some (false)
  else
  (bif (decide (at_19 ≥ (r_16.1.length : Int))) then
  some (false)
  else
  ((getI r_16.1 at_19).bind fun q_22 =>
  ((getI digits_11 at_19).bind fun q_23 =>
  (bif (q_22 != (wr (q_23 + (1 : Int)))) then
  some (false)
  else
  (lf_constraintlaw42_TerminateVisits_L1 k most_a1 want_7 rest (wr (visits_10 + (1 : Int))) r_16.1))))))) r_16 digits_11 0)))
  else
  (k visits_10))

noncomputable def lf_constraintlaw42_TerminateVisits_L0 (k : (Int) → Option (Bool)) (most_a1 : Int) : Nat → Int → Option (Bool)
  | 0, want_5 =>
  (k want_5)
  | rest + 1, want_5 =>
  (lf_constraintlaw42_TerminateVisits_L0 k most_a1 rest (wr (want_5 * (wr ((IntKind.i64.wrap most_a1) + (1 : Int))))))
noncomputable def lf_constraintlaw42_TerminateVisits (fuel : Nat) (n_a0 : Int) (most_a1 : Int) : Option (Bool) :=
  (bif (decide (n_a0 > (5 : Int))) then
  ((lf_constraintlaw42_exampleHolds fuel).bind fun r_2 =>
  some (r_2))
  else
  (bif (decide (most_a1 > (3 : Int))) then
  ((lf_constraintlaw42_exampleHolds fuel).bind fun r_4 =>
  some (r_4))
  else
  (lf_constraintlaw42_TerminateVisits_L0 (fun want_7 =>
  ((makeO 8 n_a0).bind fun n_8 =>
  (lf_constraintlaw42_TerminateVisits_L1 (fun visits_12 =>
  (bif (visits_12 == want_7) then
  ((lf_constraintlaw42_exampleHolds fuel).bind fun r_14 =>
  some (r_14))
  else
  some (false))) most_a1 want_7 fuel 1 (List.replicate n_8 0)))) most_a1 ((IntKind.i64.wrap n_a0) - 0).toNat 1)))

set_option maxHeartbeats 1000000 in
theorem lg_constraintlaw42_TerminateVisits (fuel : Nat) (n_a0 : Int) (most_a1 : Int) (res : Bool) (hr : lf_constraintlaw42_TerminateVisits fuel n_a0 most_a1 = some res) : Gives Try.prog 5 [.int .u8 n_a0, .int .u8 most_a1] (.bool res) := by
  unfold lf_constraintlaw42_TerminateVisits at hr
  refine spec_env [(0, .int .u8 n_a0), (1, .int .u8 most_a1)] Try.func5 rfl rfl fun K hK => ?_
  refine g_seq ?_
  refine g_run (by kernel_rfl) [(0, .d)] rfl ?_
  refine r_d rfl rfl rfl (s_assign rfl rfl) ?_
  refine r_end ?_
  refine g_seq ?_
  refine g_seq ?_
  refine g_run (by kernel_rfl) [(0, .d), (1, .d), (2, .d), (3, .d), (4, .d), (5, .d)] rfl ?_
  refine r_d rfl rfl rfl (s_move rfl rfl) ?_
  refine r_d rfl rfl rfl (s_cmp rfl rfl rfl rfl) ?_
  refine r_d rfl rfl rfl (s_move rfl rfl) ?_
  refine r_sB 14 rfl hr (fun h14_0 hr => ?_) (fun h14_0 hr => ?_)
  ·
    refine r_skip rfl rfl rfl ?_
    refine r_skip rfl rfl rfl ?_
    refine r_d rfl rfl rfl (s_pickT rfl rfl rfl) ?_
    refine r_end ?_
    refine g_condT rfl ?_
    refine g_seq ?_
    refine g_run (by kernel_rfl) [(0, .d), (1, .d)] rfl ?_
    obtain ⟨r_2, hr_2, hr⟩ := bindS hr
    refine r_d rfl rfl rfl (s_callD rfl cl_constraintlaw42_exampleHolds .nil (lg_constraintlaw42_exampleHolds fuel _ hr_2)) ?_
    refine r_d rfl rfl rfl (s_assign rfl rfl) ?_
    refine r_end ?_
    obtain rfl := Option.some.inj hr
    refine g_ret Try.func5 _ (.cons (resTmp rfl (Wk.refl _)) .nil) ?_
    rfl
  ·
    refine r_d rfl rfl rfl (s_move rfl rfl) ?_
    refine r_d rfl rfl rfl (s_cmp rfl rfl rfl rfl) ?_
    refine r_d rfl rfl rfl (s_pickF rfl rfl rfl) ?_
    refine r_end ?_
    refine g_sB 17 rfl hr (fun h17_2 hr => ?_) (fun h17_2 hr => ?_)
    ·
      refine g_condT rfl ?_
      refine g_seq ?_
      refine g_run (by kernel_rfl) [(0, .d), (1, .d)] rfl ?_
      obtain ⟨r_4, hr_4, hr⟩ := bindS hr
      refine r_d rfl rfl rfl (s_callD rfl cl_constraintlaw42_exampleHolds .nil (lg_constraintlaw42_exampleHolds fuel _ hr_4)) ?_
      refine r_d rfl rfl rfl (s_assign rfl rfl) ?_
      refine r_end ?_
      obtain rfl := Option.some.inj hr
      refine g_ret Try.func5 _ (.cons (resTmp rfl (Wk.refl _)) .nil) ?_
      rfl
    ·
      refine g_condF rfl ?_
      refine g_skip ?_
      refine g_seq ?_
      refine g_run (by kernel_rfl) [(0, .d), (1, .d)] rfl ?_
      refine r_d rfl rfl rfl (s_assign rfl rfl) ?_
      refine r_d rfl rfl rfl (s_assign rfl rfl) ?_
      refine r_end ?_
      refine g_seq ?_
      refine g_seq ?_
      refine g_run (by kernel_rfl) [(0, .d)] rfl ?_
      refine r_d rfl rfl rfl (s_assign rfl rfl) ?_
      refine r_end ?_
      obtain ⟨kk0, hkk0, hr⟩ := exK (fun k => lf_constraintlaw42_TerminateVisits_L0 k most_a1 ((IntKind.i64.wrap n_a0) - 0).toNat 1) hr
      have hla0 : -9223372036854775808 ≤ (IntKind.i64.wrap n_a0) ∧ (IntKind.i64.wrap n_a0) < 9223372036854775808 := wr_range _
      refine g_blockJ (fun env σ => ∃ (want_7 : Int), env = [(0, .int .u8 n_a0), (1, .int .u8 most_a1), (5, .int .i64 want_7), (6, .int .i64 1)] ∧ σ = [] ∧ kk0 want_7 = some res) ?_ (fun HK0 => ?_)
      ·
        rintro _ _ ⟨want_7, rfl, rfl, hr⟩
        rw [hkk0] at hr
        refine g_seq ?_
        refine g_run (by kernel_rfl) [(0, .d), (1, .w), (2, .d)] rfl ?_
        refine r_d rfl rfl rfl (s_move rfl rfl) ?_
        obtain ⟨n_8, hn_8, hr⟩ := bindS hr
        refine r_w rfl rfl rfl (m_makeArr (f := (D.int .i64)) 0 rfl el_L_int zv_int rfl rfl hn_8) ?_
        rintro _ _ ⟨b31_8, rfl, rfl⟩
        refine r_d rfl rfl rfl (s_assign rfl rfl) ?_
        refine r_end ?_
        refine g_freezeArr (l := (List.replicate n_8 0).map (D.int .i64)) 8 rfl (pf0 _) (by simp) ?_
        refine g_seq ?_
        obtain ⟨kk1, hkk1, hr⟩ := exK (fun k => lf_constraintlaw42_TerminateVisits_L1 k most_a1 want_7 fuel 1 (List.replicate n_8 0)) hr
        refine g_blockJ (fun env σ => ∃ (visits_12 : Int), env = [(5, .int .i64 want_7), (6, .int .i64 visits_12)] ∧ σ = [] ∧ kk1 visits_12 = some res) ?_ (fun HK1 => ?_)
        ·
          rintro _ _ ⟨visits_12, rfl, rfl, hr⟩
          rw [hkk1] at hr
          refine g_seq ?_
          refine g_run (by kernel_rfl) [(0, .d), (1, .d), (2, .d), (3, .d), (4, .d), (5, .d), (6, .d)] rfl ?_
          refine r_d rfl rfl rfl (s_move rfl rfl) ?_
          refine r_d rfl rfl rfl (s_move rfl rfl) ?_
          refine r_d rfl rfl rfl (s_cmp rfl rfl rfl rfl) ?_
          refine r_d rfl rfl rfl (s_move rfl rfl) ?_
          refine r_sB 96 rfl hr (fun h96_12 hr => ?_) (fun h96_12 hr => ?_)
          ·
            obtain ⟨r_14, hr_14, hr⟩ := bindS hr
            refine r_d rfl rfl rfl (s_callD rfl cl_constraintlaw42_exampleHolds .nil (lg_constraintlaw42_exampleHolds fuel _ hr_14)) ?_
            refine r_d rfl rfl rfl (s_pickT rfl rfl rfl) ?_
            refine r_d rfl rfl rfl (s_assign rfl rfl) ?_
            refine r_end ?_
            obtain rfl := Option.some.inj hr
            refine g_ret Try.func5 _ (.cons (resTmp rfl (Wk.refl _)) .nil) ?_
            rfl
          ·
            refine r_skip rfl rfl rfl ?_
            refine r_d rfl rfl rfl (s_pickF rfl rfl rfl) ?_
            refine r_d rfl rfl rfl (s_assign rfl rfl) ?_
            refine r_end ?_
            obtain rfl := Option.some.inj hr
            refine g_ret Try.func5 _ (.cons (resTmp rfl (Wk.refl _)) .nil) ?_
            rfl
        ·
          refine g_sub [(1, .int .u8 most_a1), (5, .int .i64 want_7), (6, .int .i64 1), (8, .lst ((List.replicate n_8 0).map (D.int .i64)))] (Sub.cons' rfl (Sub.cons' rfl (Sub.cons' rfl (Sub.cons' rfl (Sub.nil _))))) ?_
          refine g_loop (fun n env σ => ∃ (visits_10 : Int) (digits_11 : (List Int)) (n1 : Nat), (n1 = n) ∧ (env = [(1, .int .u8 most_a1), (5, .int .i64 want_7), (6, .int .i64 visits_10), (8, .lst (digits_11.map (D.int .i64)))]) ∧ (σ = []) ∧ (lf_constraintlaw42_TerminateVisits_L1 kk1 most_a1 want_7 n1 visits_10 digits_11 = some res)) _ ⟨1, (List.replicate n_8 0), _, rfl, rfl, rfl, hr⟩ ?_
          rintro n _ _ ⟨visits_10, digits_11, n1, rfl, rfl, rfl, hr⟩ IH1
          cases n1 with
          | zero => rw [lf_constraintlaw42_TerminateVisits_L1] at hr; cases hr
          | succ n1 =>
            rw [lf_constraintlaw42_TerminateVisits_L1] at hr
            refine g_seq ?_
            refine g_seq ?_
            refine g_run (by kernel_rfl) [(0, .d), (1, .d), (2, .d)] rfl ?_
            refine r_d rfl rfl rfl (s_move rfl rfl) ?_
            refine r_d rfl rfl rfl (s_move rfl rfl) ?_
            refine r_d rfl rfl rfl (s_cmp rfl rfl rfl rfl) ?_
            refine r_end ?_
            refine g_sB 34 rfl hr (fun h34_14 hr => ?_) (fun h34_14 hr => ?_)
            ·
              refine g_condT rfl ?_
              refine g_skip ?_
              refine g_block ?_
              refine g_seq ?_
              refine g_run (by kernel_rfl) [(0, .d), (1, .d), (2, .d), (3, .d), (4, .d), (5, .d), (6, .d), (7, .d), (8, .d)] rfl ?_
              refine r_d rfl rfl rfl (s_move rfl rfl) ?_
              refine r_d rfl rfl rfl (s_move rfl rfl) ?_
              refine r_d rfl rfl rfl (s_conv rfl Try.underlying5 Try.underlying3 rfl) ?_
              obtain ⟨r_16, hr_16, hr⟩ := bindS hr
              refine r_d rfl rfl rfl (s_callD rfl cl_terminate_Next (.cons rfl (Wk.refl _) (.cons rfl (Wk.refl _) .nil)) (lg_terminate_Next _ _ _ hr_16)) ?_
              refine r_d rfl rfl rfl (s_move rfl rfl) ?_
              refine r_d rfl rfl rfl (s_extract rfl rfl rfl) ?_
              refine r_d rfl rfl rfl (s_extract rfl rfl rfl) ?_
              refine r_d rfl rfl rfl (s_assign rfl rfl) ?_
              refine r_d rfl rfl rfl (s_assign rfl rfl) ?_
              refine r_end ?_
              refine g_seq ?_
              refine g_seq ?_
              refine g_run (by kernel_rfl) [(0, .d), (1, .d)] rfl ?_
              refine r_d rfl rfl rfl (s_move rfl rfl) ?_
              refine r_d rfl rfl rfl (s_not rfl rfl) ?_
              refine r_end ?_
              refine g_sB 43 rfl hr (fun h43_16 hr => ?_) (fun h43_16 hr => ?_)
              ·
                refine g_condT rfl ?_
                refine g_exit rfl ?_
                refine g_sub [(5, .int .i64 want_7), (6, .int .i64 visits_10)] (Sub.cons' rfl (Sub.cons' rfl (Sub.nil _))) ?_
                exact HK1 _ _ ⟨visits_10, rfl, rfl, hr⟩
              ·
                refine g_condF rfl ?_
                refine g_skip ?_
                refine g_seq ?_
                refine g_run (by kernel_rfl) [(0, .d)] rfl ?_
                refine r_d rfl rfl rfl (s_assign rfl rfl) ?_
                refine r_end ?_
                refine g_seq ?_
                obtain ⟨kk2, hkk2, hr⟩ := exK (fun k => lf_constraintlaw42_TerminateVisits_L2 k r_16 digits_11 0) hr
                refine g_len 8 rfl (asl rfl) fun hla2 => ?_
                simp only [List.length_map] at hla2
                refine g_blockJ (fun env σ => ∃ (at_19 : Int), env = [(1, .int .u8 most_a1), (5, .int .i64 want_7), (6, .int .i64 visits_10), (8, .lst (digits_11.map (D.int .i64))), (9, .lst (r_16.1.map (D.int .i64))), (11, .int .i64 at_19)] ∧ σ = [] ∧ kk2 at_19 = some res) ?_ (fun HK2 => ?_)
                ·
                  rintro _ _ ⟨at_19, rfl, rfl, hr⟩
                  rw [hkk2] at hr
                  refine g_seq ?_
                  refine g_seq ?_
                  refine g_any (by kernel_rfl) (by kernel_rfl) [(0, .d), (1, .d), (2, .d), (3, .d), (4, .d), (5, .d), (6, .d), (7, .d), (8, .d), (9, .d), (10, .d), (11, .d), (12, .d), (13, .d), (14, .d), (15, .d), (16, .d), (17, .d), (18, .d), (19, .d), (20, .d), (21, .d), (22, .d)] (by kernel_rfl) ?_
                  refine r_d rfl rfl rfl (s_move rfl rfl) ?_
                  refine r_d rfl rfl rfl (m_len (f := (D.int .i64)) r_16.1 rfl el_L_int rfl (asl rfl)) ?_
                  refine r_d rfl rfl rfl (s_move rfl rfl) ?_
                  refine r_d rfl rfl rfl (m_len (f := (D.int .i64)) digits_11 rfl el_L_int rfl (asl rfl)) ?_
                  refine r_d rfl rfl rfl (s_cmp rfl rfl rfl rfl) ?_
                  refine r_d rfl rfl rfl (s_move rfl rfl) ?_
                  refine r_sB 72 rfl hr (fun h72_19 hr => ?_) (fun h72_19 hr => ?_)
                  ·
                    refine r_skip rfl rfl rfl ?_
                    refine r_skip rfl rfl rfl ?_
                    refine r_skip rfl rfl rfl ?_
                    refine r_skip rfl rfl rfl ?_
                    refine r_d rfl rfl rfl (s_pickT rfl rfl rfl) ?_
                    refine r_d rfl rfl rfl (s_move rfl rfl) ?_
                    refine r_skip rfl rfl rfl ?_
                    refine r_skip rfl rfl rfl ?_
                    refine r_skip rfl rfl rfl ?_
                    refine r_skip rfl rfl rfl ?_
                    refine r_skip rfl rfl rfl ?_
                    refine r_skip rfl rfl rfl ?_
                    refine r_skip rfl rfl rfl ?_
                    refine r_skip rfl rfl rfl ?_
                    refine r_skip rfl rfl rfl ?_
                    refine r_skip rfl rfl rfl ?_
                    refine r_d rfl rfl rfl (s_pickT rfl rfl rfl) ?_
                    refine r_end ?_
                    refine g_condT rfl ?_
                    refine g_seq ?_
                    refine g_run (by kernel_rfl) [(0, .d)] rfl ?_
                    refine r_d rfl rfl rfl (s_assign rfl rfl) ?_
                    refine r_end ?_
                    obtain rfl := Option.some.inj hr
                    refine g_ret Try.func5 _ (.cons (resTmp rfl (Wk.refl _)) .nil) ?_
                    rfl
                  ·
                    refine r_d rfl rfl rfl (s_move rfl rfl) ?_
                    refine r_d rfl rfl rfl (s_move rfl rfl) ?_
                    refine r_d rfl rfl rfl (m_len (f := (D.int .i64)) r_16.1 rfl el_L_int rfl (asl rfl)) ?_
                    refine r_d rfl rfl rfl (s_cmp rfl rfl rfl rfl) ?_
                    refine r_d rfl rfl rfl (s_pickF rfl rfl rfl) ?_
                    refine r_d rfl rfl rfl (s_move rfl rfl) ?_
                    refine r_sB 78 rfl hr (fun h78_20 hr => ?_) (fun h78_20 hr => ?_)
                    ·
                      refine r_skip rfl rfl rfl ?_
                      refine r_skip rfl rfl rfl ?_
                      refine r_skip rfl rfl rfl ?_
                      refine r_skip rfl rfl rfl ?_
                      refine r_skip rfl rfl rfl ?_
                      refine r_skip rfl rfl rfl ?_
                      refine r_skip rfl rfl rfl ?_
                      refine r_skip rfl rfl rfl ?_
                      refine r_skip rfl rfl rfl ?_
                      refine r_skip rfl rfl rfl ?_
                      refine r_d rfl rfl rfl (s_pickT rfl rfl rfl) ?_
                      refine r_end ?_
                      refine g_condT rfl ?_
                      refine g_seq ?_
                      refine g_run (by kernel_rfl) [(0, .d)] rfl ?_
                      refine r_d rfl rfl rfl (s_assign rfl rfl) ?_
                      refine r_end ?_
                      obtain rfl := Option.some.inj hr
                      refine g_ret Try.func5 _ (.cons (resTmp rfl (Wk.refl _)) .nil) ?_
                      rfl
                    ·
                      refine r_d rfl rfl rfl (s_move rfl rfl) ?_
                      refine r_d rfl rfl rfl (s_move rfl rfl) ?_
                      obtain ⟨q_22, hq_22, hr⟩ := bindS hr
                      refine r_d rfl rfl rfl (m_index (f := (D.int .i64)) r_16.1 rfl el_L_int rfl (asl rfl) rfl hq_22 (fun _ => rfl) rfl) ?_
                      refine r_d rfl rfl rfl (s_load rfl rfl (by exact ty_int) rfl) ?_
                      refine r_d rfl rfl rfl (s_move rfl rfl) ?_
                      refine r_d rfl rfl rfl (s_move rfl rfl) ?_
                      obtain ⟨q_23, hq_23, hr⟩ := bindS hr
                      refine r_d rfl rfl rfl (m_index (f := (D.int .i64)) digits_11 rfl el_L_int rfl (asl rfl) rfl hq_23 (fun _ => rfl) rfl) ?_
                      refine r_d rfl rfl rfl (s_load rfl rfl (by exact ty_int) rfl) ?_
                      refine r_d rfl rfl rfl (s_arW rfl rfl rfl rfl) ?_
                      refine r_d rfl rfl rfl (s_cmp rfl rfl rfl rfl) ?_
                      refine r_d rfl rfl rfl (s_pickF rfl rfl rfl) ?_
                      refine r_end ?_
                      refine g_sB 89 rfl hr (fun h89_23 hr => ?_) (fun h89_23 hr => ?_)
                      ·
                        refine g_condT rfl ?_
                        refine g_seq ?_
                        refine g_run (by kernel_rfl) [(0, .d)] rfl ?_
                        refine r_d rfl rfl rfl (s_assign rfl rfl) ?_
                        refine r_end ?_
                        obtain rfl := Option.some.inj hr
                        refine g_ret Try.func5 _ (.cons (resTmp rfl (Wk.refl _)) .nil) ?_
                        rfl
                      ·
                        refine g_condF rfl ?_
                        refine g_skip ?_
                        refine g_seq ?_
                        refine g_run (by kernel_rfl) [(0, .d), (1, .d)] rfl ?_
                        refine r_d rfl rfl rfl (s_move rfl rfl) ?_
                        refine r_d rfl rfl rfl (s_assign rfl rfl) ?_
                        refine r_end ?_
                        refine g_run (by kernel_rfl) [(0, .d), (1, .d), (2, .d)] rfl ?_
                        refine r_d rfl rfl rfl (s_move rfl rfl) ?_
                        refine r_d rfl rfl rfl (s_arW rfl rfl rfl rfl) ?_
                        refine r_d rfl rfl rfl (s_assign rfl rfl) ?_
                        refine r_end ?_
                        refine g_inBlock ?_
                        refine g_sub [(1, .int .u8 most_a1), (5, .int .i64 want_7), (6, .int .i64 (wr (visits_10 + (1 : Int)))), (8, .lst (r_16.1.map (D.int .i64)))] (Sub.cons' rfl (Sub.cons' rfl (Sub.cons' rfl (Sub.cons' rfl (Sub.nil _))))) ?_
                        exact IH1 _ _ _ (by omega) ⟨(wr (visits_10 + (1 : Int))), r_16.1, _, rfl, rfl, rfl, hr⟩
                ·
                  refine g_sub [(1, .int .u8 most_a1), (5, .int .i64 want_7), (6, .int .i64 visits_10), (8, .lst (digits_11.map (D.int .i64))), (9, .lst (r_16.1.map (D.int .i64))), (11, .int .i64 ((0 : Nat) : Int))] (Sub.cons' rfl (Sub.cons' rfl (Sub.cons' rfl (Sub.cons' rfl (Sub.cons' rfl (Sub.cons' rfl (Sub.nil _))))))) ?_
                  refine g_loop (fun n env σ => ∃ (at_18 : Nat), (n = digits_11.length - at_18) ∧ (env = [(1, .int .u8 most_a1), (5, .int .i64 want_7), (6, .int .i64 visits_10), (8, .lst (digits_11.map (D.int .i64))), (9, .lst (r_16.1.map (D.int .i64))), (11, .int .i64 (at_18 : Int))]) ∧ (σ = []) ∧ (at_18 ≤ digits_11.length) ∧ (lf_constraintlaw42_TerminateVisits_L2 kk2 r_16 (digits_11.drop at_18) at_18 = some res)) _ ⟨0, rfl, rfl, rfl, Nat.zero_le _, hr⟩ ?_
                  rintro n _ _ ⟨at_18, rfl, rfl, rfl, hi2, hr⟩ IH2
                  rcases listStep digits_11 at_18 hi2 with ⟨ht2, hd2, he2⟩ | ⟨q_25, ht2, hd2, hq2, hlt2⟩
                  ·
                    rw [hd2, lf_constraintlaw42_TerminateVisits_L2] at hr
                    refine g_seq ?_
                    refine g_seq ?_
                    refine g_any (by kernel_rfl) (by kernel_rfl) [(0, .d), (1, .d), (2, .d), (3, .d), (4, .d), (5, .d), (6, .d), (7, .d), (8, .d), (9, .d), (10, .d), (11, .d), (12, .d), (13, .d), (14, .d), (15, .d), (16, .d), (17, .d), (18, .d), (19, .d), (20, .d)] (by kernel_rfl) ?_
                    refine r_d rfl rfl rfl (s_move rfl rfl) ?_
                    refine r_d rfl rfl rfl (s_move rfl rfl) ?_
                    refine r_d rfl rfl rfl (m_len (f := (D.int .i64)) digits_11 rfl el_L_int rfl (asl rfl)) ?_
                    refine r_d rfl rfl rfl (s_cmp rfl rfl rfl rfl) ?_
                    refine r_d rfl rfl rfl (s_move rfl rfl) ?_
                    refine r_known 48 false rfl ht2 ?_
                    refine r_skip rfl rfl rfl ?_
                    refine r_skip rfl rfl rfl ?_
                    refine r_skip rfl rfl rfl ?_
                    refine r_skip rfl rfl rfl ?_
                    refine r_d rfl rfl rfl (s_pickF rfl rfl rfl) ?_
                    refine r_d rfl rfl rfl (s_move rfl rfl) ?_
                    refine r_skip rfl rfl rfl ?_
                    refine r_skip rfl rfl rfl ?_
                    refine r_skip rfl rfl rfl ?_
                    refine r_skip rfl rfl rfl ?_
                    refine r_skip rfl rfl rfl ?_
                    refine r_skip rfl rfl rfl ?_
                    refine r_skip rfl rfl rfl ?_
                    refine r_skip rfl rfl rfl ?_
                    refine r_skip rfl rfl rfl ?_
                    refine r_d rfl rfl rfl (s_pickF rfl rfl rfl) ?_
                    refine r_end ?_
                    refine g_condF rfl ?_
                    refine g_exit rfl ?_
                    refine g_sub [(1, .int .u8 most_a1), (5, .int .i64 want_7), (6, .int .i64 visits_10), (8, .lst (digits_11.map (D.int .i64))), (9, .lst (r_16.1.map (D.int .i64))), (11, .int .i64 (at_18 : Int))] (Sub.cons' rfl (Sub.cons' rfl (Sub.cons' rfl (Sub.cons' rfl (Sub.cons' rfl (Sub.cons' rfl (Sub.nil _))))))) ?_
                    exact HK2 _ _ ⟨(at_18 : Int), rfl, rfl, hr⟩
                  ·
                    rw [hd2, lf_constraintlaw42_TerminateVisits_L2] at hr
                    refine g_seq ?_
                    refine g_seq ?_
                    refine g_any (by kernel_rfl) (by kernel_rfl) [(0, .d), (1, .d), (2, .d), (3, .d), (4, .d), (5, .d), (6, .d), (7, .d), (8, .d), (9, .d), (10, .d), (11, .d), (12, .d), (13, .d), (14, .d), (15, .d), (16, .d), (17, .d), (18, .d), (19, .d), (20, .d)] (by kernel_rfl) ?_
                    refine r_d rfl rfl rfl (s_move rfl rfl) ?_
                    refine r_d rfl rfl rfl (s_move rfl rfl) ?_
                    refine r_d rfl rfl rfl (m_len (f := (D.int .i64)) digits_11 rfl el_L_int rfl (asl rfl)) ?_
                    refine r_d rfl rfl rfl (s_cmp rfl rfl rfl rfl) ?_
                    refine r_d rfl rfl rfl (s_move rfl rfl) ?_
                    refine r_known 48 true rfl ht2 ?_
                    refine r_d rfl rfl rfl (s_move rfl rfl) ?_
                    refine r_d rfl rfl rfl (s_move rfl rfl) ?_
                    refine r_d rfl rfl rfl (m_len (f := (D.int .i64)) r_16.1 rfl el_L_int rfl (asl rfl)) ?_
                    refine r_d rfl rfl rfl (s_cmp rfl rfl rfl rfl) ?_
                    refine r_d rfl rfl rfl (s_pickT rfl rfl rfl) ?_
                    refine r_d rfl rfl rfl (s_move rfl rfl) ?_
                    refine r_sB 54 rfl hr (fun h54_25 hr => ?_) (fun h54_25 hr => ?_)
                    ·
                      refine r_d rfl rfl rfl (s_move rfl rfl) ?_
                      refine r_d rfl rfl rfl (s_move rfl rfl) ?_
                      refine r_d rfl rfl rfl (m_index (f := (D.int .i64)) digits_11 rfl el_L_int rfl (asl rfl) rfl hq2 (fun _ => rfl) rfl) ?_
                      refine r_d rfl rfl rfl (s_load rfl rfl (by exact ty_int) rfl) ?_
                      refine r_d rfl rfl rfl (s_move rfl rfl) ?_
                      refine r_d rfl rfl rfl (s_move rfl rfl) ?_
                      obtain ⟨q_27, hq_27, hr⟩ := bindS hr
                      refine r_d rfl rfl rfl (m_index (f := (D.int .i64)) r_16.1 rfl el_L_int rfl (asl rfl) rfl hq_27 (fun _ => rfl) rfl) ?_
                      refine r_d rfl rfl rfl (s_load rfl rfl (by exact ty_int) rfl) ?_
                      refine r_d rfl rfl rfl (s_cmp rfl rfl rfl rfl) ?_
                      refine r_d rfl rfl rfl (s_pickT rfl rfl rfl) ?_
                      refine r_end ?_
                      refine g_sB 64 rfl hr (fun h64_27 hr => ?_) (fun h64_27 hr => ?_)
                      ·
                        refine g_condT rfl ?_
                        refine g_skip ?_
                        refine g_block ?_
                        refine g_run (by kernel_rfl) [(0, .d), (1, .d), (2, .d)] rfl ?_
                        refine r_d rfl rfl rfl (s_move rfl rfl) ?_
                        refine r_d rfl rfl rfl (s_ar (r := ((at_18 + 1 : Nat) : Int)) rfl rfl rfl (by simp [iar]) (by omega)) ?_
                        refine r_d rfl rfl rfl (s_assign rfl rfl) ?_
                        refine r_end ?_
                        refine g_inBlock ?_
                        refine g_sub [(1, .int .u8 most_a1), (5, .int .i64 want_7), (6, .int .i64 visits_10), (8, .lst (digits_11.map (D.int .i64))), (9, .lst (r_16.1.map (D.int .i64))), (11, .int .i64 ((at_18 + 1 : Nat) : Int))] (Sub.cons' rfl (Sub.cons' rfl (Sub.cons' rfl (Sub.cons' rfl (Sub.cons' rfl (Sub.cons' rfl (Sub.nil _))))))) ?_
                        exact IH2 _ _ _ (by omega) ⟨(at_18 + 1), rfl, rfl, rfl, (by omega), hr⟩
                      ·
                        refine g_condF rfl ?_
                        refine g_exit rfl ?_
                        refine g_sub [(1, .int .u8 most_a1), (5, .int .i64 want_7), (6, .int .i64 visits_10), (8, .lst (digits_11.map (D.int .i64))), (9, .lst (r_16.1.map (D.int .i64))), (11, .int .i64 (at_18 : Int))] (Sub.cons' rfl (Sub.cons' rfl (Sub.cons' rfl (Sub.cons' rfl (Sub.cons' rfl (Sub.cons' rfl (Sub.nil _))))))) ?_
                        exact HK2 _ _ ⟨(at_18 : Int), rfl, rfl, hr⟩
                    ·
                      refine r_skip rfl rfl rfl ?_
                      refine r_skip rfl rfl rfl ?_
                      refine r_skip rfl rfl rfl ?_
                      refine r_skip rfl rfl rfl ?_
                      refine r_skip rfl rfl rfl ?_
                      refine r_skip rfl rfl rfl ?_
                      refine r_skip rfl rfl rfl ?_
                      refine r_skip rfl rfl rfl ?_
                      refine r_skip rfl rfl rfl ?_
                      refine r_d rfl rfl rfl (s_pickF rfl rfl rfl) ?_
                      refine r_end ?_
                      refine g_condF rfl ?_
                      refine g_exit rfl ?_
                      refine g_sub [(1, .int .u8 most_a1), (5, .int .i64 want_7), (6, .int .i64 visits_10), (8, .lst (digits_11.map (D.int .i64))), (9, .lst (r_16.1.map (D.int .i64))), (11, .int .i64 (at_18 : Int))] (Sub.cons' rfl (Sub.cons' rfl (Sub.cons' rfl (Sub.cons' rfl (Sub.cons' rfl (Sub.cons' rfl (Sub.nil _))))))) ?_
                      exact HK2 _ _ ⟨(at_18 : Int), rfl, rfl, hr⟩
            ·
              refine g_condF rfl ?_
              refine g_exit rfl ?_
              refine g_sub [(5, .int .i64 want_7), (6, .int .i64 visits_10)] (Sub.cons' rfl (Sub.cons' rfl (Sub.nil _))) ?_
              exact HK1 _ _ ⟨visits_10, rfl, rfl, hr⟩
      ·
        refine g_sub [(0, .int .u8 n_a0), (1, .int .u8 most_a1), (6, .int .i64 1), (5, .int .i64 1), (7, .int .i64 0)] (Sub.cons' rfl (Sub.cons' rfl (Sub.cons' rfl (Sub.cons' rfl (Sub.cons' rfl (Sub.nil _)))))) ?_
        refine g_loop (fun n env σ => ∃ (want_5 : Int) (i_6 : Int) (m0 : Nat), (m0 = n) ∧ (env = [(0, .int .u8 n_a0), (1, .int .u8 most_a1), (6, .int .i64 1), (5, .int .i64 want_5), (7, .int .i64 i_6)]) ∧ (σ = []) ∧ (m0 = ((IntKind.i64.wrap n_a0) - i_6).toNat) ∧ (lf_constraintlaw42_TerminateVisits_L0 kk0 most_a1 m0 want_5 = some res)) _ ⟨1, 0, _, rfl, rfl, rfl, rfl, hr⟩ ?_
        rintro n _ _ ⟨want_5, i_6, m0, rfl, rfl, rfl, hi0, hr⟩ IH0
        refine g_int 7 rfl fun hb0 => ?_
        rcases cntStep i_6 (IntKind.i64.wrap n_a0) m0 hi0 with ⟨hm0, ht0⟩ | ⟨m0', hm0, ht0, hi0', hlt0⟩
        ·
          rw [hm0, lf_constraintlaw42_TerminateVisits_L0] at hr
          refine g_seq ?_
          refine g_seq ?_
          refine g_run (by kernel_rfl) [(0, .d), (1, .d), (2, .d), (3, .d)] rfl ?_
          refine r_d rfl rfl rfl (s_move rfl rfl) ?_
          refine r_d rfl rfl rfl (s_move rfl rfl) ?_
          refine r_d rfl rfl rfl (s_conv rfl Try.underlying5 Try.underlying3 rfl) ?_
          refine r_d rfl rfl rfl (s_cmp rfl rfl rfl rfl) ?_
          refine r_end ?_
          refine g_known 22 false rfl ht0 ?_
          refine g_condF rfl ?_
          refine g_exit rfl ?_
          refine g_sub [(0, .int .u8 n_a0), (1, .int .u8 most_a1), (5, .int .i64 want_5), (6, .int .i64 1)] (Sub.cons' rfl (Sub.cons' rfl (Sub.cons' rfl (Sub.cons' rfl (Sub.nil _))))) ?_
          exact HK0 _ _ ⟨want_5, rfl, rfl, hr⟩
        ·
          rw [hm0, lf_constraintlaw42_TerminateVisits_L0] at hr
          refine g_seq ?_
          refine g_seq ?_
          refine g_run (by kernel_rfl) [(0, .d), (1, .d), (2, .d), (3, .d)] rfl ?_
          refine r_d rfl rfl rfl (s_move rfl rfl) ?_
          refine r_d rfl rfl rfl (s_move rfl rfl) ?_
          refine r_d rfl rfl rfl (s_conv rfl Try.underlying5 Try.underlying3 rfl) ?_
          refine r_d rfl rfl rfl (s_cmp rfl rfl rfl rfl) ?_
          refine r_end ?_
          refine g_known 22 true rfl ht0 ?_
          refine g_condT rfl ?_
          refine g_skip ?_
          refine g_seq ?_
          refine g_block ?_
          refine g_run (by kernel_rfl) [(0, .d), (1, .d), (2, .d), (3, .d), (4, .d), (5, .d)] rfl ?_
          refine r_d rfl rfl rfl (s_move rfl rfl) ?_
          refine r_d rfl rfl rfl (s_move rfl rfl) ?_
          refine r_d rfl rfl rfl (s_conv rfl Try.underlying5 Try.underlying3 rfl) ?_
          refine r_d rfl rfl rfl (s_arW rfl rfl rfl rfl) ?_
          refine r_d rfl rfl rfl (s_arW rfl rfl rfl rfl) ?_
          refine r_d rfl rfl rfl (s_assign rfl rfl) ?_
          refine r_end ?_
          refine g_inBlock ?_
          refine g_run (by kernel_rfl) [(0, .d), (1, .d), (2, .d)] rfl ?_
          refine r_d rfl rfl rfl (s_move rfl rfl) ?_
          refine r_d rfl rfl rfl (s_ar (r := i_6 + 1) rfl rfl rfl rfl (by omega)) ?_
          refine r_d rfl rfl rfl (s_assign rfl rfl) ?_
          refine r_end ?_
          refine g_sub [(0, .int .u8 n_a0), (1, .int .u8 most_a1), (6, .int .i64 1), (5, .int .i64 (wr (want_5 * (wr ((IntKind.i64.wrap most_a1) + (1 : Int)))))), (7, .int .i64 (i_6 + 1))] (Sub.cons' rfl (Sub.cons' rfl (Sub.cons' rfl (Sub.cons' rfl (Sub.cons' rfl (Sub.nil _)))))) ?_
          exact IH0 _ _ _ (by omega) ⟨(wr (want_5 * (wr ((IntKind.i64.wrap most_a1) + (1 : Int))))), (i_6 + 1), _, rfl, rfl, rfl, hi0', hr⟩

noncomputable def lf_constraintlaw23_tiny_L0 (k : Option (Bool)) : List T → Int → Option (Bool)
  | [], n_2 =>
  k
  | q_4 :: rest, n_2 =>
  ((x_sizeT q_4).bind fun r_5 =>
  (bif (decide ((wr (n_2 + r_5)) > (60 : Int))) then
  some (false)
  else
  (lf_constraintlaw23_tiny_L0 k rest (wr (n_2 + r_5)))))
noncomputable def lf_constraintlaw23_tiny (l_a0 : (List T)) : Option (Bool) :=
  (bif (decide ((l_a0.length : Int) > (8 : Int))) then
  some (false)
  else
  (lf_constraintlaw23_tiny_L0 (some (true)) l_a0 0))

end Go.Proofs.Ythcgefbigimgoaa

