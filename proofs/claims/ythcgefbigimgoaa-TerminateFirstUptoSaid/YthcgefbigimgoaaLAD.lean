/-
  Texts of the seat, merged.
-/
import Derived.Test.YthcgefbigimgoaaLAA
import Derived.Test.YthcgefbigimgoaaLAB
import Derived.Test.YthcgefbigimgoaaLAC
import Derived.Test.YthcgefbigimgoaaChecked
import Derived.WalkKit
import Derived.Lib.Hide
import Derived.Lib.AppendStr
import Derived.Deep.AppendLies
import Derived.Deep.AppendSrc
import Derived.Deep.Draws
import Derived.Deep.QuietTactic
import Derived.BigQuiet
import Derived.Deep.RegionWith
import Derived.Maps.AppendAt
import Derived.WalkSpells
import Derived.Orders
import Derived.Deep.Slices
import Derived.Deep.Fields
import Derived.ChangeArms
import Derived.Lib.OthersKept
import Derived.Lib.TrimU
import Derived.Lib.IndexAny
import Derived.Deep.LoopGhost
import Derived.Lib.Bytealg
import Derived.RangeFuncBox
import Derived.RangeFuncNested
import Derived.RangeFuncBound
import Derived.RangeFuncCalls
import Derived.RangeFuncLeaves
import Derived.Shelf.Abstract
import Derived.OwnWalkIn
import Derived.TacticsInMore
import Derived.LoopNIn
import Derived.LoopIn
import Derived.RangeFuncWrites
import Derived.Maps.OwnIn
import Derived.Maps.Views
import Derived.Laws.OwnMore
import Derived.Maps.OwnSet
import Derived.Test.YthcgefbigimgoaaRows
import Derived.ProofKit
import Derived.OpenShut
import Derived.Carry
import Derived.Great.BuildSlice
import Derived.ArgAppend
import Derived.Laws.MakeOwn
import Derived.Laws.Cover3
import Derived.Laws.CopyRow
import Derived.MapKept
import Derived.Maps.RangeRun
set_option linter.unusedVariables false
set_option linter.unusedSimpArgs false
set_option linter.unnecessarySimpa false
set_option linter.all false

namespace Go.Proofs.Ythcgefbigimgoaa
set_option maxRecDepth 100000
open Go.RowKit

theorem sz_encA (a : At) : sz (encA a) = 2 := rfl
theorem sz_encG (a : Gl) : sz (encG a) = 3 := rfl
structure S_api_Rank where
  f0_Name : ByteArray
  f1_Const : Int
  f2_Factors : (List Int)

def enc_S_api_Rank (x : S_api_Rank) : D := .agg [.str x.f0_Name, .int .i64 x.f1_Const, .lst (x.f2_Factors.map (D.int .i64))]

theorem sz_S_api_Rank (x : S_api_Rank) : sz (enc_S_api_Rank x) = 3 := by
  simp only [enc_S_api_Rank, sz, szs]

structure S_api_Rule where
  f0_Name : ByteArray
  f1_Keep : (List At)
  f2_Remove : (List At)
  f3_Guard : (List Gl)
  f4_Body : (List Gl)
  f5_Vars : Int

def enc_S_api_Rule (x : S_api_Rule) : D := .agg [.str x.f0_Name, .lst (x.f1_Keep.map encA), .lst (x.f2_Remove.map encA), .lst (x.f3_Guard.map encG), .lst (x.f4_Body.map encG), .int .i64 x.f5_Vars]

theorem sz_S_api_Rule (x : S_api_Rule) : sz (enc_S_api_Rule x) = 6 := by
  simp only [enc_S_api_Rule, sz, szs]

theorem zm_bool : ZeroM Try.prog 4 (.bool false) := ⟨.bool false, by kernel_rfl, fun _ _ => by simp only [Rep]⟩

theorem btx_rank_form : BuildT Try.prog 82 [.int .i64 0, .nilm] := .mk rfl (by kernel_rfl) Try.underlying82 (by kernel_rfl)

theorem zm_int : ZeroM Try.prog 3 (.int .i64 0) := ⟨.int .i64 0, by kernel_rfl, fun _ _ => by simp only [Rep]; exact ⟨trivial, rfl⟩⟩

structure S_api_Decl where
  f0_Name : ByteArray
  f1_Arity : Int

def enc_S_api_Decl (x : S_api_Decl) : D := .agg [.str x.f0_Name, .int .i64 x.f1_Arity]

theorem sz_S_api_Decl (x : S_api_Decl) : sz (enc_S_api_Decl x) = 2 := by
  simp only [enc_S_api_Decl, sz, szs]

structure S_api_Program where
  f0_Decls : (List S_api_Decl)
  f1_Rules : (List S_api_Rule)

def enc_S_api_Program (x : S_api_Program) : D := .agg [.lst (x.f0_Decls.map enc_S_api_Decl), .lst (x.f1_Rules.map enc_S_api_Rule)]

theorem sz_S_api_Program (x : S_api_Program) : sz (enc_S_api_Program x) = 2 := by
  simp only [enc_S_api_Program, sz, szs]

theorem bo_constraintref41_form_1_2v : BuildT Try.prog 89 [.int .i64 0, .own (.slice none 0 0) [], .vec (.slice none 0 0) 0] := .mk rfl (by kernel_rfl) Try.underlying89 (by kernel_rfl)

noncomputable def lf_rank_find_1 (r_a0 : S_api_Rank) (t1_a1 : ByteArray) (t2_a2 : Int) : Option (Bool) :=
  (bif (r_a0.f0_Name.toList == t1_a1.toList) then
  some (((r_a0.f2_Factors.length : Int) == t2_a2))
  else
  some (false))

set_option maxHeartbeats 1000000 in
theorem lg_rank_find_1 (r_a0 : S_api_Rank) (t1_a1 : ByteArray) (t2_a2 : Int) (res : Bool) (hr : lf_rank_find_1 r_a0 t1_a1 t2_a2 = some res) : Gives Try.prog 41 [enc_S_api_Rank r_a0, .ptr (.str t1_a1), .ptr (.int .i64 t2_a2)] (.bool res) := by
  unfold lf_rank_find_1 at hr
  refine spec_env [(0, enc_S_api_Rank r_a0), (1, .ptr (.str t1_a1)), (2, .ptr (.int .i64 t2_a2))] Try.func41 rfl rfl fun K hK => ?_
  refine g_seq ?_
  refine g_run (by kernel_rfl) [(0, .d), (1, .d)] rfl ?_
  refine r_d rfl rfl rfl (s_box rfl rfl rfl) ?_
  refine r_d rfl rfl rfl (s_assign rfl rfl) ?_
  refine r_end ?_
  refine g_seq ?_
  refine g_run (by kernel_rfl) [(0, .d), (1, .d), (2, .d), (3, .d), (4, .d), (5, .d), (6, .d), (7, .d), (8, .d), (9, .d), (10, .d), (11, .d)] rfl ?_
  refine r_d rfl rfl rfl (s_fieldAddr rfl fl_api_Rank_0 rfl rfl rfl rfl) ?_
  refine r_d rfl rfl rfl (s_load rfl rfl (by exact ty_string) rfl) ?_
  refine r_d rfl rfl rfl (s_load rfl rfl (by exact ty_string) rfl) ?_
  refine r_d rfl rfl rfl (s_cmpS rfl rfl rfl rfl) ?_
  refine r_d rfl rfl rfl (s_move rfl rfl) ?_
  refine r_sB 9 rfl hr (fun h9_0 hr => ?_) (fun h9_0 hr => ?_)
  ·
    refine r_d rfl rfl rfl (s_fieldAddr rfl fl_api_Rank_2 rfl rfl rfl rfl) ?_
    refine r_d rfl rfl rfl (s_load rfl rfl (by exact ty_L_int) rfl) ?_
    refine r_d rfl rfl rfl (m_len (f := (D.int .i64)) r_a0.f2_Factors rfl el_L_int rfl (asl rfl)) ?_
    refine r_d rfl rfl rfl (s_load rfl rfl (by exact ty_int) rfl) ?_
    refine r_d rfl rfl rfl (s_cmp rfl rfl rfl rfl) ?_
    refine r_d rfl rfl rfl (s_pickT rfl rfl rfl) ?_
    refine r_d rfl rfl rfl (s_assign rfl rfl) ?_
    refine r_end ?_
    obtain rfl := Option.some.inj hr
    refine g_ret Try.func41 _ (.cons (resTmp rfl (Wk.refl _)) .nil) ?_
    rfl
  ·
    refine r_skip rfl rfl rfl ?_
    refine r_skip rfl rfl rfl ?_
    refine r_skip rfl rfl rfl ?_
    refine r_skip rfl rfl rfl ?_
    refine r_skip rfl rfl rfl ?_
    refine r_d rfl rfl rfl (s_pickF rfl rfl rfl) ?_
    refine r_d rfl rfl rfl (s_assign rfl rfl) ?_
    refine r_end ?_
    obtain rfl := Option.some.inj hr
    refine g_ret Try.func41 _ (.cons (resTmp rfl (Wk.refl _)) .nil) ?_
    rfl

noncomputable def lf_slices_IndexFunc_s1_L0 (k : Option (Int)) (f_a1_c0 : ByteArray) (f_a1_c1 : Int) : List S_api_Rank → Nat → Option (Int)
  | [], i_1 =>
  k
  | q_2 :: rest, i_1 =>
  ((lf_rank_find_1 q_2 f_a1_c0 f_a1_c1).bind fun r_3 =>
  (bif r_3 then
  some ((i_1 : Int))
  else
  (lf_slices_IndexFunc_s1_L0 k f_a1_c0 f_a1_c1 rest (i_1 + 1))))
noncomputable def lf_slices_IndexFunc_s1 (s_a0 : (List S_api_Rank)) (f_a1_c0 : ByteArray) (f_a1_c1 : Int) : Option (Int) :=
  (lf_slices_IndexFunc_s1_L0 (some ((-1))) f_a1_c0 f_a1_c1 s_a0 0)

set_option maxHeartbeats 1000000 in
theorem lg_slices_IndexFunc_s1 (s_a0 : (List S_api_Rank)) (f_a1_c0 : ByteArray) (f_a1_c1 : Int) (res : Int) (hr : lf_slices_IndexFunc_s1 s_a0 f_a1_c0 f_a1_c1 = some res) : Gives Try.prog 40 [.lst (s_a0.map enc_S_api_Rank), .clo (.func 41) [] [.ptr (.str f_a1_c0), .ptr (.int .i64 f_a1_c1)]] (.int .i64 res) := by
  unfold lf_slices_IndexFunc_s1 at hr
  refine spec_env [(0, .lst (s_a0.map enc_S_api_Rank)), (1, .clo (.func 41) [] [.ptr (.str f_a1_c0), .ptr (.int .i64 f_a1_c1)])] Try.func40 rfl rfl fun K hK => ?_
  refine g_seq ?_
  refine g_run (by kernel_rfl) [(0, .d)] rfl ?_
  refine r_d rfl rfl rfl (s_assign rfl rfl) ?_
  refine r_end ?_
  refine g_seq ?_
  refine g_seq ?_
  refine g_run (by kernel_rfl) [(0, .d), (1, .d), (2, .d)] rfl ?_
  refine r_d rfl rfl rfl (s_move rfl rfl) ?_
  refine r_d rfl rfl rfl (m_len (f := enc_S_api_Rank) s_a0 rfl el_L_api_Rank rfl (asl rfl)) ?_
  refine r_d rfl rfl rfl (s_move rfl rfl) ?_
  refine r_end ?_
  obtain ⟨kk0, hkk0, hr⟩ := exK (fun k => lf_slices_IndexFunc_s1_L0 k f_a1_c0 f_a1_c1 s_a0 0) hr
  refine g_len 0 rfl (asl rfl) fun hla0 => ?_
  simp only [List.length_map] at hla0
  refine g_blockJ (fun env σ => env = [] ∧ σ = [] ∧ kk0 = some res) ?_ (fun HK0 => ?_)
  ·
    rintro _ _ ⟨rfl, rfl, hr⟩
    rw [hkk0] at hr
    refine g_seq ?_
    refine g_run (by kernel_rfl) [(0, .d)] rfl ?_
    refine r_d rfl rfl rfl (s_assign rfl rfl) ?_
    refine r_end ?_
    obtain rfl := Option.some.inj hr
    refine g_ret Try.func40 _ (.cons (resTmp rfl (Wk.refl _)) .nil) ?_
    rfl
  ·
    refine g_sub [(0, .lst (s_a0.map enc_S_api_Rank)), (1, .clo (.func 41) [] [.ptr (.str f_a1_c0), .ptr (.int .i64 f_a1_c1)]), (7, .int .i64 (s_a0.length : Int)), (8, .int .i64 ((0 : Nat) : Int))] (Sub.cons' rfl (Sub.cons' rfl (Sub.cons' rfl (Sub.cons' rfl (Sub.nil _))))) ?_
    refine g_loop (fun n env σ => ∃ (i_1 : Nat), (n = s_a0.length - i_1) ∧ (env = [(0, .lst (s_a0.map enc_S_api_Rank)), (1, .clo (.func 41) [] [.ptr (.str f_a1_c0), .ptr (.int .i64 f_a1_c1)]), (7, .int .i64 (s_a0.length : Int)), (8, .int .i64 (i_1 : Int))]) ∧ (σ = []) ∧ (i_1 ≤ s_a0.length) ∧ (lf_slices_IndexFunc_s1_L0 kk0 f_a1_c0 f_a1_c1 (s_a0.drop i_1) i_1 = some res)) _ ⟨0, rfl, rfl, rfl, Nat.zero_le _, hr⟩ ?_
    rintro n _ _ ⟨i_1, rfl, rfl, rfl, hi0, hr⟩ IH0
    rcases listStep s_a0 i_1 hi0 with ⟨ht0, hd0, he0⟩ | ⟨q_2, ht0, hd0, hq0, hlt0⟩
    ·
      rw [hd0, lf_slices_IndexFunc_s1_L0] at hr
      refine g_seq ?_
      refine g_run (by kernel_rfl) [(0, .d)] rfl ?_
      refine r_d rfl rfl rfl (s_cmp rfl rfl rfl rfl) ?_
      refine r_end ?_
      refine g_seq ?_
      refine g_known 9 false rfl ht0 ?_
      refine g_condF rfl ?_
      refine g_exit rfl ?_
      refine g_sub [] (Sub.nil _) ?_
      exact HK0 _ _ ⟨rfl, rfl, hr⟩
    ·
      rw [hd0, lf_slices_IndexFunc_s1_L0] at hr
      refine g_seq ?_
      refine g_run (by kernel_rfl) [(0, .d)] rfl ?_
      refine r_d rfl rfl rfl (s_cmp rfl rfl rfl rfl) ?_
      refine r_end ?_
      refine g_seq ?_
      refine g_known 9 true rfl ht0 ?_
      refine g_condT rfl ?_
      refine g_skip ?_
      refine g_seq ?_
      refine g_block ?_
      refine g_seq ?_
      refine g_run (by kernel_rfl) [(0, .d), (1, .d)] rfl ?_
      refine r_d rfl rfl rfl (s_move rfl rfl) ?_
      refine r_d rfl rfl rfl (s_assign rfl rfl) ?_
      refine r_end ?_
      refine g_seq ?_
      refine g_run (by kernel_rfl) [(0, .d), (1, .d), (2, .d), (3, .d), (4, .d), (5, .d)] rfl ?_
      refine r_d rfl rfl rfl (s_move rfl rfl) ?_
      refine r_d rfl rfl rfl (s_move rfl rfl) ?_
      refine r_d rfl rfl rfl (s_move rfl rfl) ?_
      refine r_d rfl rfl rfl (m_index (f := enc_S_api_Rank) s_a0 rfl el_L_api_Rank rfl (asl rfl) rfl hq0 sz_S_api_Rank rfl) ?_
      refine r_d rfl rfl rfl (s_load rfl rfl (by exact ty_api_Rank) (sz_S_api_Rank _)) ?_
      obtain ⟨r_3, hr_3, hr⟩ := bindS hr
      refine r_d rfl rfl rfl (s_callVD rfl rfl cl_rank_find_1 (.cons rfl (Wk.refl _) .nil) rfl (lg_rank_find_1 _ _ _ _ hr_3)) ?_
      refine r_end ?_
      refine g_sB 16 rfl hr (fun h16_3 hr => ?_) (fun h16_3 hr => ?_)
      ·
        refine g_condT rfl ?_
        refine g_seq ?_
        refine g_run (by kernel_rfl) [(0, .d), (1, .d)] rfl ?_
        refine r_d rfl rfl rfl (s_move rfl rfl) ?_
        refine r_d rfl rfl rfl (s_assign rfl rfl) ?_
        refine r_end ?_
        obtain rfl := Option.some.inj hr
        refine g_ret Try.func40 _ (.cons (resTmp rfl (Wk.refl _)) .nil) ?_
        rfl
      ·
        refine g_condF rfl ?_
        refine g_skip ?_
        refine g_inBlock ?_
        refine g_run (by kernel_rfl) [(0, .d), (1, .d)] rfl ?_
        refine r_d rfl rfl rfl (s_ar (r := ((i_1 + 1 : Nat) : Int)) rfl rfl rfl (by simp [iar]) (by omega)) ?_
        refine r_d rfl rfl rfl (s_move rfl rfl) ?_
        refine r_end ?_
        refine g_sub [(0, .lst (s_a0.map enc_S_api_Rank)), (1, .clo (.func 41) [] [.ptr (.str f_a1_c0), .ptr (.int .i64 f_a1_c1)]), (7, .int .i64 (s_a0.length : Int)), (8, .int .i64 ((i_1 + 1 : Nat) : Int))] (Sub.cons' rfl (Sub.cons' rfl (Sub.cons' rfl (Sub.cons' rfl (Sub.nil _))))) ?_
        exact IH0 _ _ _ (by omega) ⟨(i_1 + 1), rfl, rfl, rfl, (by omega), hr⟩

noncomputable def lf_rank_find (ranks_a0 : (List S_api_Rank)) (name_a1 : ByteArray) (arity_a2 : Int) : Option (S_api_Rank × Bool) :=
  ((lf_slices_IndexFunc_s1 ranks_a0 name_a1 arity_a2).bind fun r_2 =>
  (bif (decide (r_2 < (0 : Int))) then
  some ((⟨⟨#[]⟩, 0, []⟩ : S_api_Rank), false)
  else
  ((getI ranks_a0 r_2).bind fun q_4 =>
  some (q_4, true))))

set_option maxHeartbeats 1000000 in
theorem lg_rank_find (ranks_a0 : (List S_api_Rank)) (name_a1 : ByteArray) (arity_a2 : Int) (res : S_api_Rank × Bool) (hr : lf_rank_find ranks_a0 name_a1 arity_a2 = some res) : Gives Try.prog 31 [.lst (ranks_a0.map enc_S_api_Rank), .str name_a1, .int .i64 arity_a2] (.tup [enc_S_api_Rank res.1, .bool res.2]) := by
  unfold lf_rank_find at hr
  refine spec_env [(0, .lst (ranks_a0.map enc_S_api_Rank)), (1, .str name_a1), (2, .int .i64 arity_a2)] Try.func31 rfl rfl fun K hK => ?_
  refine g_seq ?_
  refine g_run (by kernel_rfl) [(0, .d), (1, .d), (2, .w), (3, .d)] rfl ?_
  refine r_d rfl rfl rfl (s_box rfl rfl rfl) ?_
  refine r_d rfl rfl rfl (s_box rfl rfl rfl) ?_
  refine r_w rfl rfl rfl (s_alloc rfl zv_api_Rank) ?_
  rintro _ _ ⟨b6_0, rfl, rfl⟩
  refine r_d rfl rfl rfl (s_assign rfl rfl) ?_
  refine r_end ?_
  refine g_seq ?_
  refine g_run (by kernel_rfl) [(0, .d), (1, .d), (2, .d), (3, .d)] rfl ?_
  refine r_d rfl rfl rfl (s_move rfl rfl) ?_
  refine r_d rfl rfl rfl (s_makeFunc rfl rfl rfl) ?_
  obtain ⟨r_2, hr_2, hr⟩ := bindS hr
  refine r_d rfl rfl rfl (s_callD rfl cl_slices_IndexFunc_api_Rank_api_Rank (.cons rfl (Wk.refl _) (.cons rfl (Wk.refl _) .nil)) (lg_slices_IndexFunc_s1 _ _ _ _ hr_2)) ?_
  refine r_d rfl rfl rfl (s_assign rfl rfl) ?_
  refine r_end ?_
  refine g_seq ?_
  refine g_seq ?_
  refine g_run (by kernel_rfl) [(0, .d), (1, .d)] rfl ?_
  refine r_d rfl rfl rfl (s_move rfl rfl) ?_
  refine r_d rfl rfl rfl (s_cmp rfl rfl rfl rfl) ?_
  refine r_end ?_
  refine g_sB 13 rfl hr (fun h13_2 hr => ?_) (fun h13_2 hr => ?_)
  ·
    refine g_condT rfl ?_
    refine g_seq ?_
    refine g_run (by kernel_rfl) [(0, .d), (1, .w), (2, .d)] rfl ?_
    refine r_d rfl rfl rfl (s_build rfl bt_api_Rank .nil (.nil _)) ?_
    refine r_w01 rfl rfl rfl (t_store0 _ rfl rfl rfl (Wk.refl _) (pf0 _) (by exact ty_api_Rank) rfl rfl rfl) ?_
    refine r_d rfl rfl rfl (s_assign rfl rfl) ?_
    refine r_end ?_
    obtain rfl := Option.some.inj hr
    refine g_ret Try.func31 _ (.cons (resRef rfl (.head _) (by exact ty_api_Rank) rfl (Wk.refl _)) (.cons (resTmp rfl (Wk.refl _)) .nil)) ?_
    rfl
  ·
    refine g_condF rfl ?_
    refine g_skip ?_
    refine g_seq ?_
    refine g_run (by kernel_rfl) [(0, .d), (1, .d), (2, .d), (3, .d), (4, .w), (5, .d)] rfl ?_
    refine r_d rfl rfl rfl (s_move rfl rfl) ?_
    refine r_d rfl rfl rfl (s_move rfl rfl) ?_
    obtain ⟨q_4, hq_4, hr⟩ := bindS hr
    refine r_d rfl rfl rfl (m_index (f := enc_S_api_Rank) ranks_a0 rfl el_L_api_Rank rfl (asl rfl) rfl hq_4 sz_S_api_Rank rfl) ?_
    refine r_d rfl rfl rfl (s_load rfl rfl (by exact ty_api_Rank) (sz_S_api_Rank _)) ?_
    refine r_w01 rfl rfl rfl (t_store0 _ rfl rfl rfl (Wk.refl _) (pf0 _) (by exact ty_api_Rank) (sz_S_api_Rank _) rfl rfl) ?_
    refine r_d rfl rfl rfl (s_assign rfl rfl) ?_
    refine r_end ?_
    obtain rfl := Option.some.inj hr
    refine g_ret Try.func31 _ (.cons (resRef rfl (.head _) (by exact ty_api_Rank) (sz_S_api_Rank _) (Wk.refl _)) (.cons (resTmp rfl (Wk.refl _)) .nil)) ?_
    rfl

noncomputable def lf_rank_right_1 (n_a0 : Int) : Option (Bool) :=
  (bif (decide (n_a0 < (0 : Int))) then
  some (true)
  else
  some ((decide (n_a0 > (1048576 : Int)))))

set_option maxHeartbeats 1000000 in
theorem lg_rank_right_1 (n_a0 : Int) (res : Bool) (hr : lf_rank_right_1 n_a0 = some res) : Gives Try.prog 50 [.int .i64 n_a0] (.bool res) := by
  unfold lf_rank_right_1 at hr
  refine spec_env [(0, .int .i64 n_a0)] Try.func50 rfl rfl fun K hK => ?_
  refine g_seq ?_
  refine g_run (by kernel_rfl) [(0, .d)] rfl ?_
  refine r_d rfl rfl rfl (s_assign rfl rfl) ?_
  refine r_end ?_
  refine g_seq ?_
  refine g_run (by kernel_rfl) [(0, .d), (1, .d), (2, .d), (3, .d), (4, .d), (5, .d), (6, .d)] rfl ?_
  refine r_d rfl rfl rfl (s_move rfl rfl) ?_
  refine r_d rfl rfl rfl (s_cmp rfl rfl rfl rfl) ?_
  refine r_d rfl rfl rfl (s_move rfl rfl) ?_
  refine r_sB 5 rfl hr (fun h5_0 hr => ?_) (fun h5_0 hr => ?_)
  ·
    refine r_skip rfl rfl rfl ?_
    refine r_skip rfl rfl rfl ?_
    refine r_d rfl rfl rfl (s_pickT rfl rfl rfl) ?_
    refine r_d rfl rfl rfl (s_assign rfl rfl) ?_
    refine r_end ?_
    obtain rfl := Option.some.inj hr
    refine g_ret Try.func50 _ (.cons (resTmp rfl (Wk.refl _)) .nil) ?_
    rfl
  ·
    refine r_d rfl rfl rfl (s_move rfl rfl) ?_
    refine r_d rfl rfl rfl (s_cmp rfl rfl rfl rfl) ?_
    refine r_d rfl rfl rfl (s_pickF rfl rfl rfl) ?_
    refine r_d rfl rfl rfl (s_assign rfl rfl) ?_
    refine r_end ?_
    obtain rfl := Option.some.inj hr
    refine g_ret Try.func50 _ (.cons (resTmp rfl (Wk.refl _)) .nil) ?_
    rfl

noncomputable def lf_slices_IndexFunc_s2_L0 (k : Option (Int)) : List Int → Nat → Option (Int)
  | [], i_1 =>
  k
  | q_2 :: rest, i_1 =>
  ((lf_rank_right_1 q_2).bind fun r_3 =>
  (bif r_3 then
  some ((i_1 : Int))
  else
  (lf_slices_IndexFunc_s2_L0 k rest (i_1 + 1))))
noncomputable def lf_slices_IndexFunc_s2 (s_a0 : (List Int)) : Option (Int) :=
  (lf_slices_IndexFunc_s2_L0 (some ((-1))) s_a0 0)

set_option maxHeartbeats 1000000 in
theorem lg_slices_IndexFunc_s2 (s_a0 : (List Int)) (res : Int) (hr : lf_slices_IndexFunc_s2 s_a0 = some res) : Gives Try.prog 38 [.lst (s_a0.map (D.int .i64)), .clo (.func 50) [] []] (.int .i64 res) := by
  unfold lf_slices_IndexFunc_s2 at hr
  refine spec_env [(0, .lst (s_a0.map (D.int .i64))), (1, .clo (.func 50) [] [])] Try.func38 rfl rfl fun K hK => ?_
  refine g_seq ?_
  refine g_run (by kernel_rfl) [(0, .d)] rfl ?_
  refine r_d rfl rfl rfl (s_assign rfl rfl) ?_
  refine r_end ?_
  refine g_seq ?_
  refine g_seq ?_
  refine g_run (by kernel_rfl) [(0, .d), (1, .d), (2, .d)] rfl ?_
  refine r_d rfl rfl rfl (s_move rfl rfl) ?_
  refine r_d rfl rfl rfl (m_len (f := (D.int .i64)) s_a0 rfl el_L_int rfl (asl rfl)) ?_
  refine r_d rfl rfl rfl (s_move rfl rfl) ?_
  refine r_end ?_
  obtain ⟨kk0, hkk0, hr⟩ := exK (fun k => lf_slices_IndexFunc_s2_L0 k s_a0 0) hr
  refine g_len 0 rfl (asl rfl) fun hla0 => ?_
  simp only [List.length_map] at hla0
  refine g_blockJ (fun env σ => env = [] ∧ σ = [] ∧ kk0 = some res) ?_ (fun HK0 => ?_)
  ·
    rintro _ _ ⟨rfl, rfl, hr⟩
    rw [hkk0] at hr
    refine g_seq ?_
    refine g_run (by kernel_rfl) [(0, .d)] rfl ?_
    refine r_d rfl rfl rfl (s_assign rfl rfl) ?_
    refine r_end ?_
    obtain rfl := Option.some.inj hr
    refine g_ret Try.func38 _ (.cons (resTmp rfl (Wk.refl _)) .nil) ?_
    rfl
  ·
    refine g_sub [(0, .lst (s_a0.map (D.int .i64))), (1, .clo (.func 50) [] []), (7, .int .i64 (s_a0.length : Int)), (8, .int .i64 ((0 : Nat) : Int))] (Sub.cons' rfl (Sub.cons' rfl (Sub.cons' rfl (Sub.cons' rfl (Sub.nil _))))) ?_
    refine g_loop (fun n env σ => ∃ (i_1 : Nat), (n = s_a0.length - i_1) ∧ (env = [(0, .lst (s_a0.map (D.int .i64))), (1, .clo (.func 50) [] []), (7, .int .i64 (s_a0.length : Int)), (8, .int .i64 (i_1 : Int))]) ∧ (σ = []) ∧ (i_1 ≤ s_a0.length) ∧ (lf_slices_IndexFunc_s2_L0 kk0 (s_a0.drop i_1) i_1 = some res)) _ ⟨0, rfl, rfl, rfl, Nat.zero_le _, hr⟩ ?_
    rintro n _ _ ⟨i_1, rfl, rfl, rfl, hi0, hr⟩ IH0
    rcases listStep s_a0 i_1 hi0 with ⟨ht0, hd0, he0⟩ | ⟨q_2, ht0, hd0, hq0, hlt0⟩
    ·
      rw [hd0, lf_slices_IndexFunc_s2_L0] at hr
      refine g_seq ?_
      refine g_run (by kernel_rfl) [(0, .d)] rfl ?_
      refine r_d rfl rfl rfl (s_cmp rfl rfl rfl rfl) ?_
      refine r_end ?_
      refine g_seq ?_
      refine g_known 9 false rfl ht0 ?_
      refine g_condF rfl ?_
      refine g_exit rfl ?_
      refine g_sub [] (Sub.nil _) ?_
      exact HK0 _ _ ⟨rfl, rfl, hr⟩
    ·
      rw [hd0, lf_slices_IndexFunc_s2_L0] at hr
      refine g_seq ?_
      refine g_run (by kernel_rfl) [(0, .d)] rfl ?_
      refine r_d rfl rfl rfl (s_cmp rfl rfl rfl rfl) ?_
      refine r_end ?_
      refine g_seq ?_
      refine g_known 9 true rfl ht0 ?_
      refine g_condT rfl ?_
      refine g_skip ?_
      refine g_seq ?_
      refine g_block ?_
      refine g_seq ?_
      refine g_run (by kernel_rfl) [(0, .d), (1, .d)] rfl ?_
      refine r_d rfl rfl rfl (s_move rfl rfl) ?_
      refine r_d rfl rfl rfl (s_assign rfl rfl) ?_
      refine r_end ?_
      refine g_seq ?_
      refine g_run (by kernel_rfl) [(0, .d), (1, .d), (2, .d), (3, .d), (4, .d), (5, .d)] rfl ?_
      refine r_d rfl rfl rfl (s_move rfl rfl) ?_
      refine r_d rfl rfl rfl (s_move rfl rfl) ?_
      refine r_d rfl rfl rfl (s_move rfl rfl) ?_
      refine r_d rfl rfl rfl (m_index (f := (D.int .i64)) s_a0 rfl el_L_int rfl (asl rfl) rfl hq0 (fun _ => rfl) rfl) ?_
      refine r_d rfl rfl rfl (s_load rfl rfl (by exact ty_int) rfl) ?_
      obtain ⟨r_3, hr_3, hr⟩ := bindS hr
      refine r_d rfl rfl rfl (s_callVD rfl rfl cl_rank_right_1 (.cons rfl (Wk.refl _) .nil) rfl (lg_rank_right_1 _ _ hr_3)) ?_
      refine r_end ?_
      refine g_sB 16 rfl hr (fun h16_3 hr => ?_) (fun h16_3 hr => ?_)
      ·
        refine g_condT rfl ?_
        refine g_seq ?_
        refine g_run (by kernel_rfl) [(0, .d), (1, .d)] rfl ?_
        refine r_d rfl rfl rfl (s_move rfl rfl) ?_
        refine r_d rfl rfl rfl (s_assign rfl rfl) ?_
        refine r_end ?_
        obtain rfl := Option.some.inj hr
        refine g_ret Try.func38 _ (.cons (resTmp rfl (Wk.refl _)) .nil) ?_
        rfl
      ·
        refine g_condF rfl ?_
        refine g_skip ?_
        refine g_inBlock ?_
        refine g_run (by kernel_rfl) [(0, .d), (1, .d)] rfl ?_
        refine r_d rfl rfl rfl (s_ar (r := ((i_1 + 1 : Nat) : Int)) rfl rfl rfl (by simp [iar]) (by omega)) ?_
        refine r_d rfl rfl rfl (s_move rfl rfl) ?_
        refine r_end ?_
        refine g_sub [(0, .lst (s_a0.map (D.int .i64))), (1, .clo (.func 50) [] []), (7, .int .i64 (s_a0.length : Int)), (8, .int .i64 ((i_1 + 1 : Nat) : Int))] (Sub.cons' rfl (Sub.cons' rfl (Sub.cons' rfl (Sub.cons' rfl (Sub.nil _))))) ?_
        exact IH0 _ _ _ (by omega) ⟨(i_1 + 1), rfl, rfl, rfl, (by omega), hr⟩

noncomputable def lf_slices_ContainsFunc_s1 (s_a0 : (List Int)) : Option (Bool) :=
  ((lf_slices_IndexFunc_s2 s_a0).bind fun r_1 =>
  some ((decide (r_1 ≥ (0 : Int)))))

set_option maxHeartbeats 1000000 in
theorem lg_slices_ContainsFunc_s1 (s_a0 : (List Int)) (res : Bool) (hr : lf_slices_ContainsFunc_s1 s_a0 = some res) : Gives Try.prog 25 [.lst (s_a0.map (D.int .i64)), .clo (.func 50) [] []] (.bool res) := by
  unfold lf_slices_ContainsFunc_s1 at hr
  refine spec_env [(0, .lst (s_a0.map (D.int .i64))), (1, .clo (.func 50) [] [])] Try.func25 rfl rfl fun K hK => ?_
  refine g_seq ?_
  refine g_run (by kernel_rfl) [(0, .d)] rfl ?_
  refine r_d rfl rfl rfl (s_assign rfl rfl) ?_
  refine r_end ?_
  refine g_seq ?_
  refine g_run (by kernel_rfl) [(0, .d), (1, .d), (2, .d), (3, .d), (4, .d)] rfl ?_
  refine r_d rfl rfl rfl (s_move rfl rfl) ?_
  refine r_d rfl rfl rfl (s_move rfl rfl) ?_
  obtain ⟨r_1, hr_1, hr⟩ := bindS hr
  refine r_d rfl rfl rfl (s_callD rfl cl_slices_IndexFunc_int_int (.cons rfl (Wk.refl _) (.cons rfl (Wk.refl _) .nil)) (lg_slices_IndexFunc_s2 _ _ hr_1)) ?_
  refine r_d rfl rfl rfl (s_cmp rfl rfl rfl rfl) ?_
  refine r_d rfl rfl rfl (s_assign rfl rfl) ?_
  refine r_end ?_
  obtain rfl := Option.some.inj hr
  refine g_ret Try.func25 _ (.cons (resTmp rfl (Wk.refl _)) .nil) ?_
  rfl

noncomputable def lf_rank_right (r_a0 : S_api_Rank) : Option (Bool) :=
  ((lf_rank_right_1 r_a0.f1_Const).bind fun r_1 =>
  (bif (!r_1) then
  (bif (decide ((r_a0.f2_Factors.length : Int) ≤ (6 : Int))) then
  ((lf_slices_ContainsFunc_s1 r_a0.f2_Factors).bind fun r_4 =>
  some ((!r_4)))
  else
  some (false))
  else
  some (false)))

set_option maxHeartbeats 1000000 in
theorem lg_rank_right (r_a0 : S_api_Rank) (res : Bool) (hr : lf_rank_right r_a0 = some res) : Gives Try.prog 39 [enc_S_api_Rank r_a0] (.bool res) := by
  unfold lf_rank_right at hr
  refine spec_env [(0, enc_S_api_Rank r_a0)] Try.func39 rfl rfl fun K hK => ?_
  refine g_seq ?_
  refine g_run (by kernel_rfl) [(0, .d), (1, .d)] rfl ?_
  refine r_d rfl rfl rfl (s_box rfl rfl rfl) ?_
  refine r_d rfl rfl rfl (s_assign rfl rfl) ?_
  refine r_end ?_
  refine g_seq ?_
  refine g_run (by kernel_rfl) [(0, .d)] rfl ?_
  refine r_d rfl rfl rfl (s_assign rfl rfl) ?_
  refine r_end ?_
  refine g_seq ?_
  refine g_run (by kernel_rfl) [(0, .d), (1, .d), (2, .d), (3, .d), (4, .d), (5, .d), (6, .d), (7, .d), (8, .d), (9, .d), (10, .d), (11, .d), (12, .d), (13, .d), (14, .d), (15, .d), (16, .d), (17, .d), (18, .d)] rfl ?_
  refine r_d rfl rfl rfl (s_move rfl rfl) ?_
  refine r_d rfl rfl rfl (s_fieldAddr rfl fl_api_Rank_1 rfl rfl rfl rfl) ?_
  refine r_d rfl rfl rfl (s_load rfl rfl (by exact ty_int) rfl) ?_
  obtain ⟨r_1, hr_1, hr⟩ := bindS hr
  refine r_d rfl rfl rfl (s_callVD rfl rfl cl_rank_right_1 (.cons rfl (Wk.refl _) .nil) rfl (lg_rank_right_1 _ _ hr_1)) ?_
  refine r_d rfl rfl rfl (s_not rfl rfl) ?_
  refine r_d rfl rfl rfl (s_move rfl rfl) ?_
  refine r_sB 9 rfl hr (fun h9_1 hr => ?_) (fun h9_1 hr => ?_)
  ·
    refine r_d rfl rfl rfl (s_fieldAddr rfl fl_api_Rank_2 rfl rfl rfl rfl) ?_
    refine r_d rfl rfl rfl (s_load rfl rfl (by exact ty_L_int) rfl) ?_
    refine r_d rfl rfl rfl (m_len (f := (D.int .i64)) r_a0.f2_Factors rfl el_L_int rfl (asl rfl)) ?_
    refine r_d rfl rfl rfl (s_cmp rfl rfl rfl rfl) ?_
    refine r_d rfl rfl rfl (s_pickT rfl rfl rfl) ?_
    refine r_d rfl rfl rfl (s_move rfl rfl) ?_
    refine r_sB 15 rfl hr (fun h15_2 hr => ?_) (fun h15_2 hr => ?_)
    ·
      refine r_d rfl rfl rfl (s_fieldAddr rfl fl_api_Rank_2 rfl rfl rfl rfl) ?_
      refine r_d rfl rfl rfl (s_load rfl rfl (by exact ty_L_int) rfl) ?_
      refine r_d rfl rfl rfl (s_move rfl rfl) ?_
      obtain ⟨r_4, hr_4, hr⟩ := bindS hr
      refine r_d rfl rfl rfl (s_callD rfl cl_slices_ContainsFunc_int_int (.cons rfl (Wk.refl _) (.cons rfl (Wk.refl _) .nil)) (lg_slices_ContainsFunc_s1 _ _ hr_4)) ?_
      refine r_d rfl rfl rfl (s_not rfl rfl) ?_
      refine r_d rfl rfl rfl (s_pickT rfl rfl rfl) ?_
      refine r_d rfl rfl rfl (s_assign rfl rfl) ?_
      refine r_end ?_
      obtain rfl := Option.some.inj hr
      refine g_ret Try.func39 _ (.cons (resTmp rfl (Wk.refl _)) .nil) ?_
      rfl
    ·
      refine r_skip rfl rfl rfl ?_
      refine r_skip rfl rfl rfl ?_
      refine r_skip rfl rfl rfl ?_
      refine r_skip rfl rfl rfl ?_
      refine r_skip rfl rfl rfl ?_
      refine r_d rfl rfl rfl (s_pickF rfl rfl rfl) ?_
      refine r_d rfl rfl rfl (s_assign rfl rfl) ?_
      refine r_end ?_
      obtain rfl := Option.some.inj hr
      refine g_ret Try.func39 _ (.cons (resTmp rfl (Wk.refl _)) .nil) ?_
      rfl
  ·
    refine r_skip rfl rfl rfl ?_
    refine r_skip rfl rfl rfl ?_
    refine r_skip rfl rfl rfl ?_
    refine r_skip rfl rfl rfl ?_
    refine r_d rfl rfl rfl (s_pickF rfl rfl rfl) ?_
    refine r_d rfl rfl rfl (s_move rfl rfl) ?_
    refine r_skip rfl rfl rfl ?_
    refine r_skip rfl rfl rfl ?_
    refine r_skip rfl rfl rfl ?_
    refine r_skip rfl rfl rfl ?_
    refine r_skip rfl rfl rfl ?_
    refine r_d rfl rfl rfl (s_pickF rfl rfl rfl) ?_
    refine r_d rfl rfl rfl (s_assign rfl rfl) ?_
    refine r_end ?_
    obtain rfl := Option.some.inj hr
    refine g_ret Try.func39 _ (.cons (resTmp rfl (Wk.refl _)) .nil) ?_
    rfl

noncomputable def lf_rank_valid_L0 (k : Option (Bool)) : List S_api_Rank → Option (Bool)
  | [] =>
  k
  | q_2 :: rest =>
  ((lf_rank_right q_2).bind fun r_4 =>
  (bif (!r_4) then
  some (false)
  else
  (lf_rank_valid_L0 k rest)))
noncomputable def lf_rank_valid (ranks_a0 : (List S_api_Rank)) : Option (Bool) :=
  (lf_rank_valid_L0 (some (true)) ranks_a0)

set_option maxHeartbeats 1000000 in
theorem lg_rank_valid (ranks_a0 : (List S_api_Rank)) (res : Bool) (hr : lf_rank_valid ranks_a0 = some res) : Gives Try.prog 30 [.lst (ranks_a0.map enc_S_api_Rank)] (.bool res) := by
  unfold lf_rank_valid at hr
  refine spec_env [(0, .lst (ranks_a0.map enc_S_api_Rank))] Try.func30 rfl rfl fun K hK => ?_
  refine g_seq ?_
  refine g_run (by kernel_rfl) [(0, .d)] rfl ?_
  refine r_d rfl rfl rfl (s_assign rfl rfl) ?_
  refine r_end ?_
  refine g_seq ?_
  refine g_seq ?_
  refine g_run (by kernel_rfl) [(0, .d), (1, .d), (2, .d)] rfl ?_
  refine r_d rfl rfl rfl (s_move rfl rfl) ?_
  refine r_d rfl rfl rfl (m_len (f := enc_S_api_Rank) ranks_a0 rfl el_L_api_Rank rfl (asl rfl)) ?_
  refine r_d rfl rfl rfl (s_move rfl rfl) ?_
  refine r_end ?_
  obtain ⟨kk0, hkk0, hr⟩ := exK (fun k => lf_rank_valid_L0 k ranks_a0) hr
  refine g_len 0 rfl (asl rfl) fun hla0 => ?_
  simp only [List.length_map] at hla0
  refine g_blockJ (fun env σ => env = [] ∧ σ = [] ∧ kk0 = some res) ?_ (fun HK0 => ?_)
  ·
    rintro _ _ ⟨rfl, rfl, hr⟩
    rw [hkk0] at hr
    refine g_seq ?_
    refine g_run (by kernel_rfl) [(0, .d)] rfl ?_
    refine r_d rfl rfl rfl (s_assign rfl rfl) ?_
    refine r_end ?_
    obtain rfl := Option.some.inj hr
    refine g_ret Try.func30 _ (.cons (resTmp rfl (Wk.refl _)) .nil) ?_
    rfl
  ·
    refine g_sub [(5, .lst (ranks_a0.map enc_S_api_Rank)), (6, .int .i64 (ranks_a0.length : Int)), (7, .int .i64 ((0 : Nat) : Int))] (Sub.cons' rfl (Sub.cons' rfl (Sub.cons' rfl (Sub.nil _)))) ?_
    refine g_loop (fun n env σ => ∃ (i_1 : Nat), (n = ranks_a0.length - i_1) ∧ (env = [(5, .lst (ranks_a0.map enc_S_api_Rank)), (6, .int .i64 (ranks_a0.length : Int)), (7, .int .i64 (i_1 : Int))]) ∧ (σ = []) ∧ (i_1 ≤ ranks_a0.length) ∧ (lf_rank_valid_L0 kk0 (ranks_a0.drop i_1) = some res)) _ ⟨0, rfl, rfl, rfl, Nat.zero_le _, hr⟩ ?_
    rintro n _ _ ⟨i_1, rfl, rfl, rfl, hi0, hr⟩ IH0
    rcases listStep ranks_a0 i_1 hi0 with ⟨ht0, hd0, he0⟩ | ⟨q_2, ht0, hd0, hq0, hlt0⟩
    ·
      rw [hd0, lf_rank_valid_L0] at hr
      refine g_seq ?_
      refine g_run (by kernel_rfl) [(0, .d)] rfl ?_
      refine r_d rfl rfl rfl (s_cmp rfl rfl rfl rfl) ?_
      refine r_end ?_
      refine g_seq ?_
      refine g_known 8 false rfl ht0 ?_
      refine g_condF rfl ?_
      refine g_exit rfl ?_
      refine g_sub [] (Sub.nil _) ?_
      exact HK0 _ _ ⟨rfl, rfl, hr⟩
    ·
      rw [hd0, lf_rank_valid_L0] at hr
      refine g_seq ?_
      refine g_run (by kernel_rfl) [(0, .d)] rfl ?_
      refine r_d rfl rfl rfl (s_cmp rfl rfl rfl rfl) ?_
      refine r_end ?_
      refine g_seq ?_
      refine g_known 8 true rfl ht0 ?_
      refine g_condT rfl ?_
      refine g_skip ?_
      refine g_seq ?_
      refine g_block ?_
      refine g_seq ?_
      refine g_run (by kernel_rfl) [(0, .d), (1, .d), (2, .w), (3, .w)] rfl ?_
      refine r_d rfl rfl rfl (m_index (f := enc_S_api_Rank) ranks_a0 rfl el_L_api_Rank rfl (asl rfl) rfl hq0 sz_S_api_Rank rfl) ?_
      refine r_d rfl rfl rfl (s_load rfl rfl (by exact ty_api_Rank) (sz_S_api_Rank _)) ?_
      refine r_w rfl rfl rfl (s_alloc rfl zv_api_Rank) ?_
      rintro _ _ ⟨b4_2, rfl, rfl⟩
      refine r_w01 rfl rfl rfl (t_store0 _ rfl rfl rfl (Wk.refl _) (pf0 _) (by exact ty_api_Rank) (sz_S_api_Rank _) rfl rfl) ?_
      refine r_end ?_
      refine g_freeze 4 b4_2 rfl (pf0 _) ?_
      refine g_seq ?_
      refine g_run (by kernel_rfl) [(0, .d), (1, .d), (2, .d)] rfl ?_
      refine r_d rfl rfl rfl (s_load rfl rfl (by exact ty_api_Rank) (sz_S_api_Rank _)) ?_
      obtain ⟨r_4, hr_4, hr⟩ := bindS hr
      refine r_d rfl rfl rfl (s_callD rfl cl_rank_right (.cons rfl (Wk.refl _) .nil) (lg_rank_right _ _ hr_4)) ?_
      refine r_d rfl rfl rfl (s_not rfl rfl) ?_
      refine r_end ?_
      refine g_sB 13 rfl hr (fun h13_4 hr => ?_) (fun h13_4 hr => ?_)
      ·
        refine g_condT rfl ?_
        refine g_seq ?_
        refine g_run (by kernel_rfl) [(0, .d)] rfl ?_
        refine r_d rfl rfl rfl (s_assign rfl rfl) ?_
        refine r_end ?_
        obtain rfl := Option.some.inj hr
        refine g_ret Try.func30 _ (.cons (resTmp rfl (Wk.refl _)) .nil) ?_
        rfl
      ·
        refine g_condF rfl ?_
        refine g_skip ?_
        refine g_inBlock ?_
        refine g_run (by kernel_rfl) [(0, .d), (1, .d)] rfl ?_
        refine r_d rfl rfl rfl (s_ar (r := ((i_1 + 1 : Nat) : Int)) rfl rfl rfl (by simp [iar]) (by omega)) ?_
        refine r_d rfl rfl rfl (s_move rfl rfl) ?_
        refine r_end ?_
        refine g_sub [(5, .lst (ranks_a0.map enc_S_api_Rank)), (6, .int .i64 (ranks_a0.length : Int)), (7, .int .i64 ((i_1 + 1 : Nat) : Int))] (Sub.cons' rfl (Sub.cons' rfl (Sub.cons' rfl (Sub.nil _)))) ?_
        exact IH0 _ _ _ (by omega) ⟨(i_1 + 1), rfl, rfl, rfl, (by omega), hr⟩

noncomputable def lf_occur_count (r_a0 : S_api_Rule) : Option (Int) :=
  some ((wr ((r_a0.f1_Keep.length : Int) + (r_a0.f2_Remove.length : Int))))

set_option maxHeartbeats 1000000 in
theorem lg_occur_count (r_a0 : S_api_Rule) (res : Int) (hr : lf_occur_count r_a0 = some res) : Gives Try.prog 60 [enc_S_api_Rule r_a0] (.int .i64 res) := by
  unfold lf_occur_count at hr
  refine spec_env [(0, enc_S_api_Rule r_a0)] Try.func60 rfl rfl fun K hK => ?_
  refine g_seq ?_
  refine g_run (by kernel_rfl) [(0, .d), (1, .d)] rfl ?_
  refine r_d rfl rfl rfl (s_box rfl rfl rfl) ?_
  refine r_d rfl rfl rfl (s_assign rfl rfl) ?_
  refine r_end ?_
  refine g_seq ?_
  refine g_run (by kernel_rfl) [(0, .d), (1, .d), (2, .d), (3, .d), (4, .d), (5, .d), (6, .d), (7, .d)] rfl ?_
  refine r_d rfl rfl rfl (s_fieldAddr rfl fl_api_Rule_1 rfl rfl rfl rfl) ?_
  refine r_d rfl rfl rfl (s_load rfl rfl (by exact ty_L_api_Atom) rfl) ?_
  refine r_d rfl rfl rfl (m_len (f := encA) r_a0.f1_Keep rfl el_L_api_Atom rfl (asl rfl)) ?_
  refine r_d rfl rfl rfl (s_fieldAddr rfl fl_api_Rule_2 rfl rfl rfl rfl) ?_
  refine r_d rfl rfl rfl (s_load rfl rfl (by exact ty_L_api_Atom) rfl) ?_
  refine r_d rfl rfl rfl (m_len (f := encA) r_a0.f2_Remove rfl el_L_api_Atom rfl (asl rfl)) ?_
  refine r_d rfl rfl rfl (s_arW rfl rfl rfl rfl) ?_
  refine r_d rfl rfl rfl (s_assign rfl rfl) ?_
  refine r_end ?_
  obtain rfl := Option.some.inj hr
  refine g_ret Try.func60 _ (.cons (resTmp rfl (Wk.refl _)) .nil) ?_
  rfl

noncomputable def lf_occur_Heads (r_a0 : S_api_Rule) : Option ((List At)) :=
  ((lf_occur_count r_a0).bind fun r_2 =>
  ((makeO 40 r_2).bind fun c_3 =>
  ((appO 40 [] r_a0.f1_Keep).bind fun l_5 =>
  ((appO 40 l_5 r_a0.f2_Remove).bind fun l_7 =>
  some (l_7)))))

set_option maxHeartbeats 1000000 in
theorem lg_occur_Heads (r_a0 : S_api_Rule) (res : (List At)) (hr : lf_occur_Heads r_a0 = some res) : Gives Try.prog 51 [enc_S_api_Rule r_a0] (.lst (res.map encA)) := by
  unfold lf_occur_Heads at hr
  refine spec_env [(0, enc_S_api_Rule r_a0)] Try.func51 rfl rfl fun K hK => ?_
  refine g_seq ?_
  refine g_run (by kernel_rfl) [(0, .d), (1, .w)] rfl ?_
  refine r_d rfl rfl rfl (s_box rfl rfl rfl) ?_
  refine r_w rfl rfl rfl (s_nilOwn 71 2 (.inl rfl)) ?_
  rintro _ _ ⟨u2_0, rfl, rfl⟩
  refine r_end ?_
  refine g_seq ?_
  refine g_run (by kernel_rfl) [(0, .d), (1, .d), (2, .w), (3, .d)] rfl ?_
  refine r_d rfl rfl rfl (s_load rfl rfl (by exact ty_api_Rule) (sz_S_api_Rule _)) ?_
  obtain ⟨r_2, hr_2, hr⟩ := bindS hr
  refine r_d rfl rfl rfl (s_callD rfl cl_occur_count (.cons rfl (Wk.refl _) .nil) (lg_occur_count _ _ hr_2)) ?_
  obtain ⟨c_3, hc_3, hr⟩ := bindS hr
  refine r_w rfl rfl rfl (m_make0 (f := encA) rfl el_L_api_Atom rfl rfl hc_3) ?_
  rintro _ _ ⟨u6_3, rfl, rfl⟩
  refine r_d rfl rfl rfl (s_assign rfl rfl) ?_
  refine r_end ?_
  refine g_seq ?_
  refine g_run (by kernel_rfl) [(0, .d), (1, .d), (2, .d), (3, .w), (4, .d)] rfl ?_
  refine r_d rfl rfl rfl (s_move rfl rfl) ?_
  refine r_d rfl rfl rfl (s_fieldAddr rfl fl_api_Rule_1 rfl rfl rfl rfl) ?_
  refine r_d rfl rfl rfl (s_load rfl rfl (by exact ty_L_api_Atom) rfl) ?_
  obtain ⟨l_5, hl_5, hr⟩ := bindS hr
  refine r_w rfl rfl rfl (m_appOwn (f := encA) [] r_a0.f1_Keep rfl el_L_api_Atom rfl rfl (asl rfl) (pf0 _) rfl sz_encA hl_5) ?_
  rintro _ _ ⟨u10_5, rfl, rfl⟩
  refine r_d rfl rfl rfl (s_assign rfl rfl) ?_
  refine r_end ?_
  refine g_seq ?_
  refine g_run (by kernel_rfl) [(0, .d), (1, .d), (2, .d), (3, .w), (4, .d)] rfl ?_
  refine r_d rfl rfl rfl (s_move rfl rfl) ?_
  refine r_d rfl rfl rfl (s_fieldAddr rfl fl_api_Rule_2 rfl rfl rfl rfl) ?_
  refine r_d rfl rfl rfl (s_load rfl rfl (by exact ty_L_api_Atom) rfl) ?_
  obtain ⟨l_7, hl_7, hr⟩ := bindS hr
  refine r_w rfl rfl rfl (m_appOwn (f := encA) l_5 r_a0.f2_Remove rfl el_L_api_Atom rfl rfl (asl rfl) (pf0 _) rfl sz_encA hl_7) ?_
  rintro _ _ ⟨u14_7, rfl, rfl⟩
  refine r_d rfl rfl rfl (s_assign rfl rfl) ?_
  refine r_end ?_
  obtain rfl := Option.some.inj hr
  refine g_ret Try.func51 _ (.cons (resTmp rfl (Wk.own _ _)) .nil) ?_
  rfl

noncomputable def lf_rank_variables_L1 (k : ((List (Int × Bool))) → Option ((List (Int × Bool)) × (List (Int × Bool)))) (mm_6 : (List (Int × Bool))) : List Gl → (List (Int × Bool)) → Option ((List (Int × Bool)) × (List (Int × Bool)))
  | [], mm_8 =>
  (k mm_8)
  | q_10 :: rest, mm_8 =>
  (bif (q_10.op == (4 : Int)) then
  (bif (decide ((q_10.ts.length : Int) > (0 : Int))) then
  ((getI q_10.ts 0).bind fun q_14 =>
  (bif (q_14.k == (1 : Int)) then
  (bif (!((mget mm_6 q_14.i).getD false)) then
  ((mputO mm_8 q_14.i true).bind fun mm_17 =>
  (lf_rank_variables_L1 k mm_6 rest mm_17))
  else
  (lf_rank_variables_L1 k mm_6 rest mm_8))
  else
  (lf_rank_variables_L1 k mm_6 rest mm_8)))
  else
  (lf_rank_variables_L1 k mm_6 rest mm_8))
  else
  (lf_rank_variables_L1 k mm_6 rest mm_8))

noncomputable def lf_rank_variables_L2 (k : ((List (Int × Bool))) → Option ((List (Int × Bool)) × (List (Int × Bool)))) : List Int → (List (Int × Bool)) → Option ((List (Int × Bool)) × (List (Int × Bool)))
  | [], mm_22 =>
  (k mm_22)
  | q_24 :: rest, mm_22 =>
  ((mputO mm_22 q_24 true).bind fun mm_25 =>
  (lf_rank_variables_L2 k rest mm_25))

noncomputable def lf_rank_variables_L0 (k : ((List (Int × Bool))) → Option ((List (Int × Bool)) × (List (Int × Bool)))) : List At → (List (Int × Bool)) → Option ((List (Int × Bool)) × (List (Int × Bool)))
  | [], mm_5 =>
  (k mm_5)
  | q_18 :: rest, mm_5 =>
  ((x_varsA q_18).bind fun r_20 =>
  (lf_rank_variables_L2 (fun mm_23 =>
  (lf_rank_variables_L0 k rest mm_23)) r_20 mm_5))
noncomputable def lf_rank_variables (r_a0 : S_api_Rule) : Option ((List (Int × Bool)) × (List (Int × Bool))) :=
  ((lf_occur_Heads r_a0).bind fun r_3 =>
  (lf_rank_variables_L0 (fun mm_6 =>
  (lf_rank_variables_L1 (fun mm_9 =>
  some (mm_6, mm_9)) mm_6 r_a0.f4_Body [])) r_3 []))

set_option maxHeartbeats 1000000 in
theorem lg_rank_variables (r_a0 : S_api_Rule) (res : (List (Int × Bool)) × (List (Int × Bool))) (hr : lf_rank_variables r_a0 = some res) : Spec Try.prog 42 [enc_S_api_Rule r_a0] [] (fun d σ => ∃ (n_o0 : Nat) (n_o1 : Nat), d = .tup [.map n_o0, .map n_o1] ∧ σ = [.map n_o0 (mapM' (D.int .i64) D.bool res.1), .map n_o1 (mapM' (D.int .i64) D.bool res.2)]) := by
  unfold lf_rank_variables at hr
  refine spec_env [(0, enc_S_api_Rule r_a0)] Try.func42 rfl rfl fun K hK => ?_
  refine g_seq ?_
  refine g_run (by kernel_rfl) [(0, .d), (1, .d), (2, .d)] rfl ?_
  refine r_d rfl rfl rfl (s_box rfl rfl rfl) ?_
  refine r_d rfl rfl rfl (s_assign rfl rfl) ?_
  refine r_d rfl rfl rfl (s_assign rfl rfl) ?_
  refine r_end ?_
  refine g_seq ?_
  refine g_run (by kernel_rfl) [(0, .w), (1, .w), (2, .d), (3, .d)] rfl ?_
  refine r_w rfl rfl rfl (m_makeMap (α := Int) (β := Bool) (key := (D.int .i64)) (g := D.bool) rfl) ?_
  rintro _ _ ⟨m10_0, rfl, rfl⟩
  refine r_w rfl rfl rfl (m_makeMap (α := Int) (β := Bool) (key := (D.int .i64)) (g := D.bool) rfl) ?_
  rintro _ _ ⟨m11_1, rfl, rfl⟩
  refine r_d rfl rfl rfl (s_assign rfl rfl) ?_
  refine r_d rfl rfl rfl (s_assign rfl rfl) ?_
  refine r_end ?_
  refine g_seq ?_
  refine g_seq ?_
  refine g_run (by kernel_rfl) [(0, .d), (1, .d), (2, .d), (3, .d)] rfl ?_
  refine r_d rfl rfl rfl (s_load rfl rfl (by exact ty_api_Rule) (sz_S_api_Rule _)) ?_
  obtain ⟨r_3, hr_3, hr⟩ := bindS hr
  refine r_d rfl rfl rfl (s_callD rfl cl_occur_Heads (.cons rfl (Wk.refl _) .nil) (lg_occur_Heads _ _ hr_3)) ?_
  refine r_d rfl rfl rfl (m_len (f := encA) r_3 rfl el_L_api_Atom rfl (asl rfl)) ?_
  refine r_d rfl rfl rfl (s_move rfl rfl) ?_
  refine r_end ?_
  obtain ⟨kk0, hkk0, hr⟩ := exK (fun k => lf_rank_variables_L0 k r_3 []) hr
  refine g_len 13 rfl (asl rfl) fun hla0 => ?_
  simp only [List.length_map] at hla0
  refine g_blockJ (fun env σ => ∃ (mm_6 : (List (Int × Bool))), env = [(1, .ptr (enc_S_api_Rule r_a0)), (2, .map m10_0), (3, .map m11_1)] ∧ σ = [.map m10_0 (mapM' (D.int .i64) D.bool mm_6), .map m11_1 (mapM' (D.int .i64) D.bool ([] : (List (Int × Bool))))] ∧ kk0 mm_6 = some res) ?_ (fun HK0 => ?_)
  ·
    rintro _ _ ⟨mm_6, rfl, rfl, hr⟩
    rw [hkk0] at hr
    refine g_seq ?_
    refine g_seq ?_
    refine g_run (by kernel_rfl) [(0, .d), (1, .d), (2, .d), (3, .d)] rfl ?_
    refine r_d rfl rfl rfl (s_fieldAddr rfl fl_api_Rule_4 rfl rfl rfl rfl) ?_
    refine r_d rfl rfl rfl (s_load rfl rfl (by exact ty_L_api_Goal) rfl) ?_
    refine r_d rfl rfl rfl (m_len (f := encG) r_a0.f4_Body rfl el_L_api_Goal rfl (asl rfl)) ?_
    refine r_d rfl rfl rfl (s_move rfl rfl) ?_
    refine r_end ?_
    obtain ⟨kk1, hkk1, hr⟩ := exK (fun k => lf_rank_variables_L1 k mm_6 r_a0.f4_Body []) hr
    refine g_len 31 rfl (asl rfl) fun hla1 => ?_
    simp only [List.length_map] at hla1
    refine g_blockJ (fun env σ => ∃ (mm_9 : (List (Int × Bool))), env = [(2, .map m10_0), (3, .map m11_1)] ∧ σ = [.map m10_0 (mapM' (D.int .i64) D.bool mm_6), .map m11_1 (mapM' (D.int .i64) D.bool mm_9)] ∧ kk1 mm_9 = some res) ?_ (fun HK1 => ?_)
    ·
      rintro _ _ ⟨mm_9, rfl, rfl, hr⟩
      rw [hkk1] at hr
      refine g_seq ?_
      refine g_run (by kernel_rfl) [(0, .d), (1, .d), (2, .d), (3, .d)] rfl ?_
      refine r_d rfl rfl rfl (s_move rfl rfl) ?_
      refine r_d rfl rfl rfl (s_move rfl rfl) ?_
      refine r_d rfl rfl rfl (s_assign rfl rfl) ?_
      refine r_d rfl rfl rfl (s_assign rfl rfl) ?_
      refine r_end ?_
      obtain rfl := Option.some.inj hr
      refine g_ret Try.func42 _ (.cons (resTmp rfl (Wk.refl _)) (.cons (resTmp rfl (Wk.refl _)) .nil)) ?_
      exact ⟨m10_0, m11_1, rfl, rfl⟩
    ·
      refine g_sub [(2, .map m10_0), (3, .map m11_1), (31, .lst (r_a0.f4_Body.map encG)), (32, .int .i64 (r_a0.f4_Body.length : Int)), (33, .int .i64 ((0 : Nat) : Int))] (Sub.cons' rfl (Sub.cons' rfl (Sub.cons' rfl (Sub.cons' rfl (Sub.cons' rfl (Sub.nil _)))))) ?_
      refine g_loop (fun n env σ => ∃ (i_7 : Nat) (mm_8 : (List (Int × Bool))), (n = r_a0.f4_Body.length - i_7) ∧ (env = [(2, .map m10_0), (3, .map m11_1), (31, .lst (r_a0.f4_Body.map encG)), (32, .int .i64 (r_a0.f4_Body.length : Int)), (33, .int .i64 (i_7 : Int))]) ∧ (σ = [.map m10_0 (mapM' (D.int .i64) D.bool mm_6), .map m11_1 (mapM' (D.int .i64) D.bool mm_8)]) ∧ (i_7 ≤ r_a0.f4_Body.length) ∧ (lf_rank_variables_L1 kk1 mm_6 (r_a0.f4_Body.drop i_7) mm_8 = some res)) _ ⟨0, [], rfl, rfl, rfl, Nat.zero_le _, hr⟩ ?_
      rintro n _ _ ⟨i_7, mm_8, rfl, rfl, rfl, hi1, hr⟩ IH1
      rcases listStep r_a0.f4_Body i_7 hi1 with ⟨ht1, hd1, he1⟩ | ⟨q_10, ht1, hd1, hq1, hlt1⟩
      ·
        rw [hd1, lf_rank_variables_L1] at hr
        refine g_seq ?_
        refine g_run (by kernel_rfl) [(0, .d)] rfl ?_
        refine r_d rfl rfl rfl (s_cmp rfl rfl rfl rfl) ?_
        refine r_end ?_
        refine g_seq ?_
        refine g_known 34 false rfl ht1 ?_
        refine g_condF rfl ?_
        refine g_exit rfl ?_
        refine g_sub [(2, .map m10_0), (3, .map m11_1)] (Sub.cons' rfl (Sub.cons' rfl (Sub.nil _))) ?_
        exact HK1 _ _ ⟨mm_8, rfl, rfl, hr⟩
      ·
        rw [hd1, lf_rank_variables_L1] at hr
        refine g_seq ?_
        refine g_run (by kernel_rfl) [(0, .d)] rfl ?_
        refine r_d rfl rfl rfl (s_cmp rfl rfl rfl rfl) ?_
        refine r_end ?_
        refine g_seq ?_
        refine g_known 34 true rfl ht1 ?_
        refine g_condT rfl ?_
        refine g_skip ?_
        refine g_seq ?_
        refine g_block ?_
        refine g_seq ?_
        refine g_run (by kernel_rfl) [(0, .d), (1, .d), (2, .w), (3, .w)] rfl ?_
        refine r_d rfl rfl rfl (m_index (f := encG) r_a0.f4_Body rfl el_L_api_Goal rfl (asl rfl) rfl hq1 sz_encG rfl) ?_
        refine r_d rfl rfl rfl (s_load rfl rfl (by exact ty_api_Goal) (sz_encG _)) ?_
        refine r_w rfl rfl rfl (s_alloc rfl zv_api_Goal) ?_
        rintro _ _ ⟨b9_10, rfl, rfl⟩
        refine r_w01 rfl rfl rfl (t_store0 _ rfl rfl rfl (Wk.refl _) (pf0 _) (by exact ty_api_Goal) (sz_encG _) rfl rfl) ?_
        refine r_end ?_
        refine g_freeze 9 b9_10 rfl (pf0 _) ?_
        refine g_seq ?_
        refine g_run (by kernel_rfl) [(0, .d), (1, .d), (2, .d), (3, .d), (4, .d), (5, .d), (6, .d), (7, .d), (8, .d), (9, .d), (10, .d), (11, .d), (12, .d), (13, .d), (14, .d), (15, .d), (16, .d), (17, .d), (18, .d), (19, .d), (20, .d), (21, .d), (22, .d), (23, .d), (24, .r), (25, .d), (26, .d)] rfl ?_
        refine r_d rfl rfl rfl (s_fieldAddr rfl fl_api_Goal_0 rfl rfl rfl rfl) ?_
        refine r_d rfl rfl rfl (s_load rfl rfl (by exact ty_int) rfl) ?_
        refine r_d rfl rfl rfl (s_cmp rfl rfl rfl rfl) ?_
        refine r_d rfl rfl rfl (s_move rfl rfl) ?_
        refine r_sB 40 rfl hr (fun h40_11 hr => ?_) (fun h40_11 hr => ?_)
        ·
          refine r_d rfl rfl rfl (s_fieldAddr rfl fl_api_Goal_2 rfl rfl rfl rfl) ?_
          refine r_d rfl rfl rfl (s_load rfl rfl (by exact ty_L_api_Term) rfl) ?_
          refine r_d rfl rfl rfl (m_len (f := encT) q_10.ts rfl el_L_api_Term rfl (asl rfl)) ?_
          refine r_d rfl rfl rfl (s_cmp rfl rfl rfl rfl) ?_
          refine r_d rfl rfl rfl (s_pickT rfl rfl rfl) ?_
          refine r_d rfl rfl rfl (s_move rfl rfl) ?_
          refine r_sB 46 rfl hr (fun h46_12 hr => ?_) (fun h46_12 hr => ?_)
          ·
            refine r_d rfl rfl rfl (s_fieldAddr rfl fl_api_Goal_2 rfl rfl rfl rfl) ?_
            refine r_d rfl rfl rfl (s_load rfl rfl (by exact ty_L_api_Term) rfl) ?_
            obtain ⟨q_14, hq_14, hr⟩ := bindS hr
            refine r_d rfl rfl rfl (m_index (f := encT) q_10.ts rfl el_L_api_Term rfl (asl rfl) rfl hq_14 sz_encT rfl) ?_
            refine r_d rfl rfl rfl (s_fieldAddr rfl fl_api_Term_0 rfl (fsT_get0 _) (fsT_off0 _) rfl) ?_
            refine r_d rfl rfl rfl (s_load rfl rfl (by exact ty_int) rfl) ?_
            refine r_d rfl rfl rfl (s_cmp rfl rfl rfl rfl) ?_
            refine r_d rfl rfl rfl (s_pickT rfl rfl rfl) ?_
            refine r_d rfl rfl rfl (s_move rfl rfl) ?_
            refine r_sB 54 rfl hr (fun h54_14 hr => ?_) (fun h54_14 hr => ?_)
            ·
              refine r_d rfl rfl rfl (s_move rfl rfl) ?_
              refine r_d rfl rfl rfl (s_fieldAddr rfl fl_api_Goal_2 rfl rfl rfl rfl) ?_
              refine r_d rfl rfl rfl (s_load rfl rfl (by exact ty_L_api_Term) rfl) ?_
              refine r_d rfl rfl rfl (m_index (f := encT) q_10.ts rfl el_L_api_Term rfl (asl rfl) rfl hq_14 sz_encT rfl) ?_
              refine r_d rfl rfl rfl (s_fieldAddr rfl fl_api_Term_1 rfl (fsT_get1 _) (fsT_off1 _) rfl) ?_
              refine r_d rfl rfl rfl (s_load rfl rfl (by exact ty_int) rfl) ?_
              refine r_r rfl rfl rfl (m_lookup1 (key := (D.int .i64)) (g := D.bool) mm_6 q_14.i false rfl Try.underlying77 (keyInt Try.underlying3) zm_bool rfl rfl (.head _)) ?_
              refine r_d rfl rfl rfl (s_not rfl rfl) ?_
              refine r_d rfl rfl rfl (s_pickT rfl rfl rfl) ?_
              refine r_end ?_
              refine g_sB 63 rfl hr (fun h63_15 hr => ?_) (fun h63_15 hr => ?_)
              ·
                refine g_condT rfl ?_
                refine g_run (by kernel_rfl) [(0, .d), (1, .d), (2, .d), (3, .d), (4, .d), (5, .d), (6, .w)] rfl ?_
                refine r_d rfl rfl rfl (s_move rfl rfl) ?_
                refine r_d rfl rfl rfl (s_fieldAddr rfl fl_api_Goal_2 rfl rfl rfl rfl) ?_
                refine r_d rfl rfl rfl (s_load rfl rfl (by exact ty_L_api_Term) rfl) ?_
                refine r_d rfl rfl rfl (m_index (f := encT) q_10.ts rfl el_L_api_Term rfl (asl rfl) rfl hq_14 sz_encT rfl) ?_
                refine r_d rfl rfl rfl (s_fieldAddr rfl fl_api_Term_1 rfl (fsT_get1 _) (fsT_off1 _) rfl) ?_
                refine r_d rfl rfl rfl (s_load rfl rfl (by exact ty_int) rfl) ?_
                obtain ⟨mm_17, hmm_17, hr⟩ := bindS hr
                refine r_w01 rfl rfl rfl (m_mapUpdate (key := (D.int .i64)) (g := D.bool) mm_8 q_14.i true rfl Try.underlying77 (keyInt Try.underlying3) rfl rfl rfl (Wk.refl _) (pf1 _ _ _) hmm_17) ?_
                refine r_end ?_
                refine g_inBlock ?_
                refine g_run (by kernel_rfl) [(0, .d), (1, .d)] rfl ?_
                refine r_d rfl rfl rfl (s_ar (r := ((i_7 + 1 : Nat) : Int)) rfl rfl rfl (by simp [iar]) (by omega)) ?_
                refine r_d rfl rfl rfl (s_move rfl rfl) ?_
                refine r_end ?_
                refine g_sub [(2, .map m10_0), (3, .map m11_1), (31, .lst (r_a0.f4_Body.map encG)), (32, .int .i64 (r_a0.f4_Body.length : Int)), (33, .int .i64 ((i_7 + 1 : Nat) : Int))] (Sub.cons' rfl (Sub.cons' rfl (Sub.cons' rfl (Sub.cons' rfl (Sub.cons' rfl (Sub.nil _)))))) ?_
                refine g_perm [_, _] _ ((pf0 _).trans (pf1 _ _ _)) ?_
                exact IH1 _ _ _ (by omega) ⟨(i_7 + 1), mm_17, rfl, rfl, rfl, (by omega), hr⟩
              ·
                refine g_condF rfl ?_
                refine g_skip ?_
                refine g_inBlock ?_
                refine g_run (by kernel_rfl) [(0, .d), (1, .d)] rfl ?_
                refine r_d rfl rfl rfl (s_ar (r := ((i_7 + 1 : Nat) : Int)) rfl rfl rfl (by simp [iar]) (by omega)) ?_
                refine r_d rfl rfl rfl (s_move rfl rfl) ?_
                refine r_end ?_
                refine g_sub [(2, .map m10_0), (3, .map m11_1), (31, .lst (r_a0.f4_Body.map encG)), (32, .int .i64 (r_a0.f4_Body.length : Int)), (33, .int .i64 ((i_7 + 1 : Nat) : Int))] (Sub.cons' rfl (Sub.cons' rfl (Sub.cons' rfl (Sub.cons' rfl (Sub.cons' rfl (Sub.nil _)))))) ?_
                exact IH1 _ _ _ (by omega) ⟨(i_7 + 1), mm_8, rfl, rfl, rfl, (by omega), hr⟩
            ·
              refine r_skip rfl rfl rfl ?_
              refine r_skip rfl rfl rfl ?_
              refine r_skip rfl rfl rfl ?_
              refine r_skip rfl rfl rfl ?_
              refine r_skip rfl rfl rfl ?_
              refine r_skip rfl rfl rfl ?_
              refine r_skip rfl rfl rfl ?_
              refine r_skip rfl rfl rfl ?_
              refine r_d rfl rfl rfl (s_pickF rfl rfl rfl) ?_
              refine r_end ?_
              refine g_condF rfl ?_
              refine g_skip ?_
              refine g_inBlock ?_
              refine g_run (by kernel_rfl) [(0, .d), (1, .d)] rfl ?_
              refine r_d rfl rfl rfl (s_ar (r := ((i_7 + 1 : Nat) : Int)) rfl rfl rfl (by simp [iar]) (by omega)) ?_
              refine r_d rfl rfl rfl (s_move rfl rfl) ?_
              refine r_end ?_
              refine g_sub [(2, .map m10_0), (3, .map m11_1), (31, .lst (r_a0.f4_Body.map encG)), (32, .int .i64 (r_a0.f4_Body.length : Int)), (33, .int .i64 ((i_7 + 1 : Nat) : Int))] (Sub.cons' rfl (Sub.cons' rfl (Sub.cons' rfl (Sub.cons' rfl (Sub.cons' rfl (Sub.nil _)))))) ?_
              exact IH1 _ _ _ (by omega) ⟨(i_7 + 1), mm_8, rfl, rfl, rfl, (by omega), hr⟩
          ·
            refine r_skip rfl rfl rfl ?_
            refine r_skip rfl rfl rfl ?_
            refine r_skip rfl rfl rfl ?_
            refine r_skip rfl rfl rfl ?_
            refine r_skip rfl rfl rfl ?_
            refine r_skip rfl rfl rfl ?_
            refine r_d rfl rfl rfl (s_pickF rfl rfl rfl) ?_
            refine r_d rfl rfl rfl (s_move rfl rfl) ?_
            refine r_skip rfl rfl rfl ?_
            refine r_skip rfl rfl rfl ?_
            refine r_skip rfl rfl rfl ?_
            refine r_skip rfl rfl rfl ?_
            refine r_skip rfl rfl rfl ?_
            refine r_skip rfl rfl rfl ?_
            refine r_skip rfl rfl rfl ?_
            refine r_skip rfl rfl rfl ?_
            refine r_d rfl rfl rfl (s_pickF rfl rfl rfl) ?_
            refine r_end ?_
            refine g_condF rfl ?_
            refine g_skip ?_
            refine g_inBlock ?_
            refine g_run (by kernel_rfl) [(0, .d), (1, .d)] rfl ?_
            refine r_d rfl rfl rfl (s_ar (r := ((i_7 + 1 : Nat) : Int)) rfl rfl rfl (by simp [iar]) (by omega)) ?_
            refine r_d rfl rfl rfl (s_move rfl rfl) ?_
            refine r_end ?_
            refine g_sub [(2, .map m10_0), (3, .map m11_1), (31, .lst (r_a0.f4_Body.map encG)), (32, .int .i64 (r_a0.f4_Body.length : Int)), (33, .int .i64 ((i_7 + 1 : Nat) : Int))] (Sub.cons' rfl (Sub.cons' rfl (Sub.cons' rfl (Sub.cons' rfl (Sub.cons' rfl (Sub.nil _)))))) ?_
            exact IH1 _ _ _ (by omega) ⟨(i_7 + 1), mm_8, rfl, rfl, rfl, (by omega), hr⟩
        ·
          refine r_skip rfl rfl rfl ?_
          refine r_skip rfl rfl rfl ?_
          refine r_skip rfl rfl rfl ?_
          refine r_skip rfl rfl rfl ?_
          refine r_d rfl rfl rfl (s_pickF rfl rfl rfl) ?_
          refine r_d rfl rfl rfl (s_move rfl rfl) ?_
          refine r_skip rfl rfl rfl ?_
          refine r_skip rfl rfl rfl ?_
          refine r_skip rfl rfl rfl ?_
          refine r_skip rfl rfl rfl ?_
          refine r_skip rfl rfl rfl ?_
          refine r_skip rfl rfl rfl ?_
          refine r_d rfl rfl rfl (s_pickF rfl rfl rfl) ?_
          refine r_d rfl rfl rfl (s_move rfl rfl) ?_
          refine r_skip rfl rfl rfl ?_
          refine r_skip rfl rfl rfl ?_
          refine r_skip rfl rfl rfl ?_
          refine r_skip rfl rfl rfl ?_
          refine r_skip rfl rfl rfl ?_
          refine r_skip rfl rfl rfl ?_
          refine r_skip rfl rfl rfl ?_
          refine r_skip rfl rfl rfl ?_
          refine r_d rfl rfl rfl (s_pickF rfl rfl rfl) ?_
          refine r_end ?_
          refine g_condF rfl ?_
          refine g_skip ?_
          refine g_inBlock ?_
          refine g_run (by kernel_rfl) [(0, .d), (1, .d)] rfl ?_
          refine r_d rfl rfl rfl (s_ar (r := ((i_7 + 1 : Nat) : Int)) rfl rfl rfl (by simp [iar]) (by omega)) ?_
          refine r_d rfl rfl rfl (s_move rfl rfl) ?_
          refine r_end ?_
          refine g_sub [(2, .map m10_0), (3, .map m11_1), (31, .lst (r_a0.f4_Body.map encG)), (32, .int .i64 (r_a0.f4_Body.length : Int)), (33, .int .i64 ((i_7 + 1 : Nat) : Int))] (Sub.cons' rfl (Sub.cons' rfl (Sub.cons' rfl (Sub.cons' rfl (Sub.cons' rfl (Sub.nil _)))))) ?_
          exact IH1 _ _ _ (by omega) ⟨(i_7 + 1), mm_8, rfl, rfl, rfl, (by omega), hr⟩
  ·
    refine g_sub [(1, .ptr (enc_S_api_Rule r_a0)), (2, .map m10_0), (3, .map m11_1), (13, .lst (r_3.map encA)), (14, .int .i64 (r_3.length : Int)), (15, .int .i64 ((0 : Nat) : Int))] (Sub.cons' rfl (Sub.cons' rfl (Sub.cons' rfl (Sub.cons' rfl (Sub.cons' rfl (Sub.cons' rfl (Sub.nil _))))))) ?_
    refine g_perm [_, _] _ ((pf0 _).trans (pf1 _ _ _)) ?_
    refine g_loop (fun n env σ => ∃ (i_4 : Nat) (mm_5 : (List (Int × Bool))), (n = r_3.length - i_4) ∧ (env = [(1, .ptr (enc_S_api_Rule r_a0)), (2, .map m10_0), (3, .map m11_1), (13, .lst (r_3.map encA)), (14, .int .i64 (r_3.length : Int)), (15, .int .i64 (i_4 : Int))]) ∧ (σ = [.map m10_0 (mapM' (D.int .i64) D.bool mm_5), .map m11_1 (mapM' (D.int .i64) D.bool ([] : (List (Int × Bool))))]) ∧ (i_4 ≤ r_3.length) ∧ (lf_rank_variables_L0 kk0 (r_3.drop i_4) mm_5 = some res)) _ ⟨0, [], rfl, rfl, rfl, Nat.zero_le _, hr⟩ ?_
    rintro n _ _ ⟨i_4, mm_5, rfl, rfl, rfl, hi0, hr⟩ IH0
    rcases listStep r_3 i_4 hi0 with ⟨ht0, hd0, he0⟩ | ⟨q_18, ht0, hd0, hq0, hlt0⟩
    ·
      rw [hd0, lf_rank_variables_L0] at hr
      refine g_seq ?_
      refine g_run (by kernel_rfl) [(0, .d)] rfl ?_
      refine r_d rfl rfl rfl (s_cmp rfl rfl rfl rfl) ?_
      refine r_end ?_
      refine g_seq ?_
      refine g_known 16 false rfl ht0 ?_
      refine g_condF rfl ?_
      refine g_exit rfl ?_
      refine g_sub [(1, .ptr (enc_S_api_Rule r_a0)), (2, .map m10_0), (3, .map m11_1)] (Sub.cons' rfl (Sub.cons' rfl (Sub.cons' rfl (Sub.nil _)))) ?_
      exact HK0 _ _ ⟨mm_5, rfl, rfl, hr⟩
    ·
      rw [hd0, lf_rank_variables_L0] at hr
      refine g_seq ?_
      refine g_run (by kernel_rfl) [(0, .d)] rfl ?_
      refine r_d rfl rfl rfl (s_cmp rfl rfl rfl rfl) ?_
      refine r_end ?_
      refine g_seq ?_
      refine g_known 16 true rfl ht0 ?_
      refine g_condT rfl ?_
      refine g_skip ?_
      refine g_seq ?_
      refine g_block ?_
      refine g_seq ?_
      refine g_run (by kernel_rfl) [(0, .d), (1, .d), (2, .w), (3, .w)] rfl ?_
      refine r_d rfl rfl rfl (m_index (f := encA) r_3 rfl el_L_api_Atom rfl (asl rfl) rfl hq0 sz_encA rfl) ?_
      refine r_d rfl rfl rfl (s_load rfl rfl (by exact ty_api_Atom) (sz_encA _)) ?_
      refine r_w rfl rfl rfl (s_alloc rfl zv_api_Atom) ?_
      rintro _ _ ⟨b5_18, rfl, rfl⟩
      refine r_w01 rfl rfl rfl (t_store0 _ rfl rfl rfl (Wk.refl _) (pf0 _) (by exact ty_api_Atom) (sz_encA _) rfl rfl) ?_
      refine r_end ?_
      refine g_freeze 5 b5_18 rfl (pf0 _) ?_
      refine g_seq ?_
      refine g_run (by kernel_rfl) [(0, .d), (1, .d), (2, .d), (3, .d)] rfl ?_
      refine r_d rfl rfl rfl (s_load rfl rfl (by exact ty_api_Atom) (sz_encA _)) ?_
      obtain ⟨r_20, hr_20, hr⟩ := bindS hr
      refine r_d rfl rfl rfl (s_callD rfl cl_term_AtomVars (.cons rfl (Wk.refl _) .nil) (lx_term_AtomVars _ _ hr_20)) ?_
      refine r_d rfl rfl rfl (m_len (f := (D.int .i64)) r_20 rfl el_L_int rfl (asl rfl)) ?_
      refine r_d rfl rfl rfl (s_move rfl rfl) ?_
      refine r_end ?_
      obtain ⟨kk2, hkk2, hr⟩ := exK (fun k => lf_rank_variables_L2 k r_20 mm_5) hr
      refine g_len 20 rfl (asl rfl) fun hla2 => ?_
      simp only [List.length_map] at hla2
      refine g_blockJ (fun env σ => ∃ (mm_23 : (List (Int × Bool))), env = [(1, .ptr (enc_S_api_Rule r_a0)), (2, .map m10_0), (3, .map m11_1), (13, .lst (r_3.map encA)), (14, .int .i64 (r_3.length : Int)), (15, .int .i64 (i_4 : Int))] ∧ σ = [.map m10_0 (mapM' (D.int .i64) D.bool mm_23), .map m11_1 (mapM' (D.int .i64) D.bool ([] : (List (Int × Bool))))] ∧ kk2 mm_23 = some res) ?_ (fun HK2 => ?_)
      ·
        rintro _ _ ⟨mm_23, rfl, rfl, hr⟩
        rw [hkk2] at hr
        refine g_inBlock ?_
        refine g_run (by kernel_rfl) [(0, .d), (1, .d)] rfl ?_
        refine r_d rfl rfl rfl (s_ar (r := ((i_4 + 1 : Nat) : Int)) rfl rfl rfl (by simp [iar]) (by omega)) ?_
        refine r_d rfl rfl rfl (s_move rfl rfl) ?_
        refine r_end ?_
        refine g_sub [(1, .ptr (enc_S_api_Rule r_a0)), (2, .map m10_0), (3, .map m11_1), (13, .lst (r_3.map encA)), (14, .int .i64 (r_3.length : Int)), (15, .int .i64 ((i_4 + 1 : Nat) : Int))] (Sub.cons' rfl (Sub.cons' rfl (Sub.cons' rfl (Sub.cons' rfl (Sub.cons' rfl (Sub.cons' rfl (Sub.nil _))))))) ?_
        exact IH0 _ _ _ (by omega) ⟨(i_4 + 1), mm_23, rfl, rfl, rfl, (by omega), hr⟩
      ·
        refine g_sub [(1, .ptr (enc_S_api_Rule r_a0)), (2, .map m10_0), (3, .map m11_1), (13, .lst (r_3.map encA)), (14, .int .i64 (r_3.length : Int)), (15, .int .i64 ((i_4 : Nat) : Int)), (20, .lst (r_20.map (D.int .i64))), (21, .int .i64 (r_20.length : Int)), (22, .int .i64 ((0 : Nat) : Int))] (Sub.cons' rfl (Sub.cons' rfl (Sub.cons' rfl (Sub.cons' rfl (Sub.cons' rfl (Sub.cons' rfl (Sub.cons' rfl (Sub.cons' rfl (Sub.cons' rfl (Sub.nil _)))))))))) ?_
        refine g_loop (fun n env σ => ∃ (i_21 : Nat) (mm_22 : (List (Int × Bool))), (n = r_20.length - i_21) ∧ (env = [(1, .ptr (enc_S_api_Rule r_a0)), (2, .map m10_0), (3, .map m11_1), (13, .lst (r_3.map encA)), (14, .int .i64 (r_3.length : Int)), (15, .int .i64 (i_4 : Int)), (20, .lst (r_20.map (D.int .i64))), (21, .int .i64 (r_20.length : Int)), (22, .int .i64 (i_21 : Int))]) ∧ (σ = [.map m10_0 (mapM' (D.int .i64) D.bool mm_22), .map m11_1 (mapM' (D.int .i64) D.bool ([] : (List (Int × Bool))))]) ∧ (i_21 ≤ r_20.length) ∧ (lf_rank_variables_L2 kk2 (r_20.drop i_21) mm_22 = some res)) _ ⟨0, mm_5, rfl, rfl, rfl, Nat.zero_le _, hr⟩ ?_
        rintro n _ _ ⟨i_21, mm_22, rfl, rfl, rfl, hi2, hr⟩ IH2
        rcases listStep r_20 i_21 hi2 with ⟨ht2, hd2, he2⟩ | ⟨q_24, ht2, hd2, hq2, hlt2⟩
        ·
          rw [hd2, lf_rank_variables_L2] at hr
          refine g_seq ?_
          refine g_run (by kernel_rfl) [(0, .d)] rfl ?_
          refine r_d rfl rfl rfl (s_cmp rfl rfl rfl rfl) ?_
          refine r_end ?_
          refine g_seq ?_
          refine g_known 23 false rfl ht2 ?_
          refine g_condF rfl ?_
          refine g_exit rfl ?_
          refine g_sub [(1, .ptr (enc_S_api_Rule r_a0)), (2, .map m10_0), (3, .map m11_1), (13, .lst (r_3.map encA)), (14, .int .i64 (r_3.length : Int)), (15, .int .i64 (i_4 : Int))] (Sub.cons' rfl (Sub.cons' rfl (Sub.cons' rfl (Sub.cons' rfl (Sub.cons' rfl (Sub.cons' rfl (Sub.nil _))))))) ?_
          exact HK2 _ _ ⟨mm_22, rfl, rfl, hr⟩
        ·
          rw [hd2, lf_rank_variables_L2] at hr
          refine g_seq ?_
          refine g_run (by kernel_rfl) [(0, .d)] rfl ?_
          refine r_d rfl rfl rfl (s_cmp rfl rfl rfl rfl) ?_
          refine r_end ?_
          refine g_seq ?_
          refine g_known 23 true rfl ht2 ?_
          refine g_condT rfl ?_
          refine g_skip ?_
          refine g_seq ?_
          refine g_block ?_
          refine g_seq ?_
          refine g_run (by kernel_rfl) [(0, .d), (1, .d), (2, .d)] rfl ?_
          refine r_d rfl rfl rfl (m_index (f := (D.int .i64)) r_20 rfl el_L_int rfl (asl rfl) rfl hq2 (fun _ => rfl) rfl) ?_
          refine r_d rfl rfl rfl (s_load rfl rfl (by exact ty_int) rfl) ?_
          refine r_d rfl rfl rfl (s_assign rfl rfl) ?_
          refine r_end ?_
          refine g_run (by kernel_rfl) [(0, .d), (1, .d), (2, .w)] rfl ?_
          refine r_d rfl rfl rfl (s_move rfl rfl) ?_
          refine r_d rfl rfl rfl (s_move rfl rfl) ?_
          obtain ⟨mm_25, hmm_25, hr⟩ := bindS hr
          refine r_w01 rfl rfl rfl (m_mapUpdate (key := (D.int .i64)) (g := D.bool) mm_22 q_24 true rfl Try.underlying77 (keyInt Try.underlying3) rfl rfl rfl (Wk.refl _) (pf0 _) hmm_25) ?_
          refine r_end ?_
          refine g_inBlock ?_
          refine g_run (by kernel_rfl) [(0, .d), (1, .d)] rfl ?_
          refine r_d rfl rfl rfl (s_ar (r := ((i_21 + 1 : Nat) : Int)) rfl rfl rfl (by simp [iar]) (by omega)) ?_
          refine r_d rfl rfl rfl (s_move rfl rfl) ?_
          refine r_end ?_
          refine g_sub [(1, .ptr (enc_S_api_Rule r_a0)), (2, .map m10_0), (3, .map m11_1), (13, .lst (r_3.map encA)), (14, .int .i64 (r_3.length : Int)), (15, .int .i64 ((i_4 : Nat) : Int)), (20, .lst (r_20.map (D.int .i64))), (21, .int .i64 (r_20.length : Int)), (22, .int .i64 ((i_21 + 1 : Nat) : Int))] (Sub.cons' rfl (Sub.cons' rfl (Sub.cons' rfl (Sub.cons' rfl (Sub.cons' rfl (Sub.cons' rfl (Sub.cons' rfl (Sub.cons' rfl (Sub.cons' rfl (Sub.nil _)))))))))) ?_
          exact IH2 _ _ _ (by omega) ⟨(i_21 + 1), mm_25, rfl, rfl, rfl, (by omega), hr⟩

noncomputable def lf_Prank_form_size_s1_L0 (k : (Int) → ((List (Int × Int))) → Option (Int × (List (Int × Int)))) (rec : T → Int → Int → (List (Int × Int)) → Option (Int × (List (Int × Int)))) (times_a2 : Int) : List T → Int → (List (Int × Int)) → Option (Int × (List (Int × Int)))
  | [], f_4, mm_5 =>
  (k f_4 mm_5)
  | q_8 :: rest, f_4, mm_5 =>
  ((rec q_8 times_a2 f_4 mm_5).bind fun r_10 =>
  (lf_Prank_form_size_s1_L0 k rec times_a2 rest r_10.1 r_10.2))
noncomputable def lf_Prank_form_size_s1 : Nat → T → Int → Int → (List (Int × Int)) → Option (Int × (List (Int × Int)))
  | 0, _, _, _, _ => none
  | fuel + 1, t_a1, times_a2, c_0_0, s_1 =>
    (fun (rec : T → Int → Int → (List (Int × Int)) → Option (Int × (List (Int × Int)))) =>
      (bif (t_a1.k == (1 : Int)) then
      ((mputO s_1 t_a1.i (wr (((mget s_1 t_a1.i).getD 0) + times_a2))).bind fun mm_2 =>
      some (c_0_0, mm_2))
      else
      (lf_Prank_form_size_s1_L0 (fun f_6 mm_7 =>
      some (f_6, mm_7)) rec times_a2 t_a1.ar (wr (c_0_0 + times_a2)) s_1))) (lf_Prank_form_size_s1 fuel)

set_option maxHeartbeats 1000000 in
theorem lgs_Prank_form_size_s1 (fuel : Nat) (rec : T → Int → Int → (List (Int × Int)) → Option (Int × (List (Int × Int)))) (IHR : ∀ (t_a1 : T) (times_a2 : Int) (c_0_0 : Int) (s_1 : (List (Int × Int))) (b_o0 : Nat) (m_o1 : Nat) (res : Int × (List (Int × Int))), rec t_a1 times_a2 c_0_0 s_1 = some res → Spec Try.prog 53 [.ref b_o0 0 [], encT t_a1, .int .i64 times_a2] [.cell b_o0 (.agg [.int .i64 c_0_0, .map m_o1]), .map m_o1 (mapM' (D.int .i64) (D.int .i64) s_1)] (fun d σ => d = .tup [] ∧ σ = [.cell b_o0 (.agg [.int .i64 res.1, .map m_o1]), .map m_o1 (mapM' (D.int .i64) (D.int .i64) res.2)])) (t_a1 : T) (times_a2 : Int) (c_0_0 : Int) (s_1 : (List (Int × Int))) (b_o0 : Nat) (m_o1 : Nat) (res : Int × (List (Int × Int)))
    (hr : (bif (t_a1.k == (1 : Int)) then
((mputO s_1 t_a1.i (wr (((mget s_1 t_a1.i).getD 0) + times_a2))).bind fun mm_2 =>
some (c_0_0, mm_2))
else
(lf_Prank_form_size_s1_L0 (fun f_6 mm_7 =>
some (f_6, mm_7)) rec times_a2 t_a1.ar (wr (c_0_0 + times_a2)) s_1)) = some res) : Spec Try.prog 53 [.ref b_o0 0 [], encT t_a1, .int .i64 times_a2] [.cell b_o0 (.agg [.int .i64 c_0_0, .map m_o1]), .map m_o1 (mapM' (D.int .i64) (D.int .i64) s_1)] (fun d σ => d = .tup [] ∧ σ = [.cell b_o0 (.agg [.int .i64 res.1, .map m_o1]), .map m_o1 (mapM' (D.int .i64) (D.int .i64) res.2)]) := by
  refine spec_env [(0, .ref b_o0 0 []), (1, encT t_a1), (2, .int .i64 times_a2)] Try.func53 rfl rfl fun K hK => ?_
  refine g_seq ?_
  refine g_run (by kernel_rfl) [(0, .d)] rfl ?_
  refine r_d rfl rfl rfl (s_box rfl rfl rfl) ?_
  refine r_end ?_
  refine g_seq ?_
  refine g_seq ?_
  refine g_run (by kernel_rfl) [(0, .d), (1, .d), (2, .d)] rfl ?_
  refine r_d rfl rfl rfl (s_fieldAddr rfl fl_api_Term_0 rfl (fsT_get0 _) (fsT_off0 _) rfl) ?_
  refine r_d rfl rfl rfl (s_load rfl rfl (by exact ty_int) rfl) ?_
  refine r_d rfl rfl rfl (s_cmp rfl rfl rfl rfl) ?_
  refine r_end ?_
  refine g_sB 10 rfl hr (fun h10_0 hr => ?_) (fun h10_0 hr => ?_)
  ·
    refine g_condT rfl ?_
    refine g_seq ?_
    refine g_any (by kernel_rfl) (by kernel_rfl) [(0, .d), (1, .d), (2, .d), (3, .r), (4, .d), (5, .d), (6, .r), (7, .d), (8, .d), (9, .w)] (by kernel_rfl) ?_
    refine r_d rfl rfl rfl (s_move rfl rfl) ?_
    refine r_d rfl rfl rfl (s_nilCheckR rfl rfl) ?_
    refine r_d rfl rfl rfl (s_fieldRef rfl fl_rank_form_1 rfl) ?_
    refine r_r rfl rfl rfl (t_loadRef rfl rfl (.head _) rfl rfl (by exact ty_map_int_int) rfl) ?_
    refine r_d rfl rfl rfl (s_fieldAddr rfl fl_api_Term_1 rfl (fsT_get1 _) (fsT_off1 _) rfl) ?_
    refine r_d rfl rfl rfl (s_load rfl rfl (by exact ty_int) rfl) ?_
    refine r_r rfl rfl rfl (m_lookup1 (key := (D.int .i64)) (g := (D.int .i64)) s_1 t_a1.i 0 rfl Try.underlying80 (keyInt Try.underlying3) zm_int rfl rfl (.tail _ (.head _))) ?_
    refine r_d rfl rfl rfl (s_move rfl rfl) ?_
    refine r_d rfl rfl rfl (s_arW rfl rfl rfl rfl) ?_
    obtain ⟨mm_2, hmm_2, hr⟩ := bindS hr
    refine r_w01 rfl rfl rfl (m_mapUpdate (key := (D.int .i64)) (g := (D.int .i64)) s_1 t_a1.i (wr (((mget s_1 t_a1.i).getD 0) + times_a2)) rfl Try.underlying80 (keyInt Try.underlying3) rfl rfl rfl (Wk.refl _) (pf1 _ _ _) hmm_2) ?_
    refine r_end ?_
    refine g_perm [_, _] _ ((pf0 _).trans (pf1 _ _ _)) ?_
    obtain rfl := Option.some.inj hr
    refine g_ret Try.func53 _ .nil ?_
    exact ⟨rfl, rfl⟩
  ·
    refine g_condF rfl ?_
    refine g_skip ?_
    refine g_seq ?_
    refine g_run (by kernel_rfl) [(0, .d), (1, .d), (2, .d), (3, .r), (4, .d), (5, .d), (6, .d), (7, .d), (8, .w)] rfl ?_
    refine r_d rfl rfl rfl (s_move rfl rfl) ?_
    refine r_d rfl rfl rfl (s_nilCheckR rfl rfl) ?_
    refine r_d rfl rfl rfl (s_fieldRef rfl fl_rank_form_0 rfl) ?_
    refine r_r rfl rfl rfl (t_loadRef rfl rfl (.head _) rfl rfl (by exact ty_int) rfl) ?_
    refine r_d rfl rfl rfl (s_move rfl rfl) ?_
    refine r_d rfl rfl rfl (s_arW rfl rfl rfl rfl) ?_
    refine r_d rfl rfl rfl (s_nilCheckR rfl rfl) ?_
    refine r_d rfl rfl rfl (s_fieldRef rfl fl_rank_form_0 rfl) ?_
    refine r_w01 rfl rfl rfl (t_store _ rfl rfl rfl (Wk.refl _) (pf0 _) rfl rfl (by exact ty_int) rfl rfl rfl) ?_
    refine r_end ?_
    refine g_seq ?_
    refine g_run (by kernel_rfl) [(0, .d), (1, .d), (2, .d), (3, .d)] rfl ?_
    refine r_d rfl rfl rfl (s_fieldAddr rfl fl_api_Term_3 rfl (fsT_get3 _) (fsT_off3 _) rfl) ?_
    refine r_d rfl rfl rfl (s_load rfl rfl (by exact ty_L_api_Term) rfl) ?_
    refine r_d rfl rfl rfl (m_len (f := encT) t_a1.ar rfl el_L_api_Term rfl (asl rfl)) ?_
    refine r_d rfl rfl rfl (s_move rfl rfl) ?_
    refine r_end ?_
    obtain ⟨kk0, hkk0, hr⟩ := exK (fun k => lf_Prank_form_size_s1_L0 k rec times_a2 t_a1.ar (wr (c_0_0 + times_a2)) s_1) hr
    refine g_len 29 rfl (asl rfl) fun hla0 => ?_
    simp only [List.length_map] at hla0
    refine g_blockJ (fun env σ => ∃ (f_6 : Int) (mm_7 : (List (Int × Int))), env = [] ∧ σ = [.cell b_o0 (.agg [.int .i64 f_6, .map m_o1]), .map m_o1 (mapM' (D.int .i64) (D.int .i64) mm_7)] ∧ kk0 f_6 mm_7 = some res) ?_ (fun HK0 => ?_)
    ·
      rintro _ _ ⟨f_6, mm_7, rfl, rfl, hr⟩
      rw [hkk0] at hr
      obtain rfl := Option.some.inj hr
      refine g_end Try.func53 _ .nil ?_
      exact ⟨rfl, rfl⟩
    ·
      refine g_sub [(0, .ref b_o0 0 []), (2, .int .i64 times_a2), (29, .lst (t_a1.ar.map encT)), (30, .int .i64 (t_a1.ar.length : Int)), (31, .int .i64 ((0 : Nat) : Int))] (Sub.cons' rfl (Sub.cons' rfl (Sub.cons' rfl (Sub.cons' rfl (Sub.cons' rfl (Sub.nil _)))))) ?_
      refine g_loop (fun n env σ => ∃ (i_3 : Nat) (f_4 : Int) (mm_5 : (List (Int × Int))), (n = t_a1.ar.length - i_3) ∧ (env = [(0, .ref b_o0 0 []), (2, .int .i64 times_a2), (29, .lst (t_a1.ar.map encT)), (30, .int .i64 (t_a1.ar.length : Int)), (31, .int .i64 (i_3 : Int))]) ∧ (σ = [.cell b_o0 (.agg [.int .i64 f_4, .map m_o1]), .map m_o1 (mapM' (D.int .i64) (D.int .i64) mm_5)]) ∧ (i_3 ≤ t_a1.ar.length) ∧ (lf_Prank_form_size_s1_L0 kk0 rec times_a2 (t_a1.ar.drop i_3) f_4 mm_5 = some res)) _ ⟨0, (wr (c_0_0 + times_a2)), s_1, rfl, rfl, rfl, Nat.zero_le _, hr⟩ ?_
      rintro n _ _ ⟨i_3, f_4, mm_5, rfl, rfl, rfl, hi0, hr⟩ IH0
      rcases listStep t_a1.ar i_3 hi0 with ⟨ht0, hd0, he0⟩ | ⟨q_8, ht0, hd0, hq0, hlt0⟩
      ·
        rw [hd0, lf_Prank_form_size_s1_L0] at hr
        refine g_seq ?_
        refine g_run (by kernel_rfl) [(0, .d)] rfl ?_
        refine r_d rfl rfl rfl (s_cmp rfl rfl rfl rfl) ?_
        refine r_end ?_
        refine g_seq ?_
        refine g_known 32 false rfl ht0 ?_
        refine g_condF rfl ?_
        refine g_exit rfl ?_
        refine g_sub [] (Sub.nil _) ?_
        exact HK0 _ _ ⟨f_4, mm_5, rfl, rfl, hr⟩
      ·
        rw [hd0, lf_Prank_form_size_s1_L0] at hr
        refine g_seq ?_
        refine g_run (by kernel_rfl) [(0, .d)] rfl ?_
        refine r_d rfl rfl rfl (s_cmp rfl rfl rfl rfl) ?_
        refine r_end ?_
        refine g_seq ?_
        refine g_known 32 true rfl ht0 ?_
        refine g_condT rfl ?_
        refine g_skip ?_
        refine g_seq ?_
        refine g_block ?_
        refine g_seq ?_
        refine g_run (by kernel_rfl) [(0, .d), (1, .d), (2, .w), (3, .w)] rfl ?_
        refine r_d rfl rfl rfl (m_index (f := encT) t_a1.ar rfl el_L_api_Term rfl (asl rfl) rfl hq0 sz_encT rfl) ?_
        refine r_d rfl rfl rfl (s_load rfl rfl (by exact ty_api_Term) (sz_encT _)) ?_
        refine r_w rfl rfl rfl (s_alloc rfl zv_api_Term) ?_
        rintro _ _ ⟨b7_8, rfl, rfl⟩
        refine r_w01 rfl rfl rfl (t_store0 _ rfl rfl rfl (Wk.refl _) (pf0 _) (by exact ty_api_Term) (sz_encT _) rfl rfl) ?_
        refine r_end ?_
        refine g_freeze 7 b7_8 rfl (pf0 _) ?_
        refine g_run (by kernel_rfl) [(0, .d), (1, .d), (2, .d), (3, .w)] rfl ?_
        refine r_d rfl rfl rfl (s_move rfl rfl) ?_
        refine r_d rfl rfl rfl (s_load rfl rfl (by exact ty_api_Term) (sz_encT _)) ?_
        refine r_d rfl rfl rfl (s_move rfl rfl) ?_
        obtain ⟨r_10, hr_10, hr⟩ := bindS hr
        refine r_w rfl rfl rfl (s_call _ rfl cl_Prank_form_size (.cons rfl (Wk.refl _) (.cons rfl (Wk.refl _) (.cons rfl (Wk.refl _) .nil))) (by exact ((pf1 _ _ _).trans (pf1 _ _ _))) (IHR _ _ _ _ _ _ _ hr_10)) ?_
        rintro _ _ ⟨_, ⟨rfl, rfl⟩, rfl⟩
        refine r_st ((.cell b_o0 (.agg [.int .i64 r_10.1, .map m_o1])) :: (.map m_o1 (mapM' (D.int .i64) (D.int .i64) r_10.2)) :: _) rfl ?_
        refine r_end ?_
        refine g_inBlock ?_
        refine g_run (by kernel_rfl) [(0, .d), (1, .d)] rfl ?_
        refine r_d rfl rfl rfl (s_ar (r := ((i_3 + 1 : Nat) : Int)) rfl rfl rfl (by simp [iar]) (by omega)) ?_
        refine r_d rfl rfl rfl (s_move rfl rfl) ?_
        refine r_end ?_
        refine g_sub [(0, .ref b_o0 0 []), (2, .int .i64 times_a2), (29, .lst (t_a1.ar.map encT)), (30, .int .i64 (t_a1.ar.length : Int)), (31, .int .i64 ((i_3 + 1 : Nat) : Int))] (Sub.cons' rfl (Sub.cons' rfl (Sub.cons' rfl (Sub.cons' rfl (Sub.cons' rfl (Sub.nil _)))))) ?_
        exact IH0 _ _ _ (by omega) ⟨(i_3 + 1), r_10.1, r_10.2, rfl, rfl, rfl, (by omega), hr⟩
theorem lg_Prank_form_size_s1 : ∀ (fuel : Nat) (t_a1 : T) (times_a2 : Int) (c_0_0 : Int) (s_1 : (List (Int × Int))) (b_o0 : Nat) (m_o1 : Nat) (res : Int × (List (Int × Int))), lf_Prank_form_size_s1 fuel t_a1 times_a2 c_0_0 s_1 = some res → Spec Try.prog 53 [.ref b_o0 0 [], encT t_a1, .int .i64 times_a2] [.cell b_o0 (.agg [.int .i64 c_0_0, .map m_o1]), .map m_o1 (mapM' (D.int .i64) (D.int .i64) s_1)] (fun d σ => d = .tup [] ∧ σ = [.cell b_o0 (.agg [.int .i64 res.1, .map m_o1]), .map m_o1 (mapM' (D.int .i64) (D.int .i64) res.2)])
  | 0, _, _, _, _, _, _, _, h => by cases h
  | fuel + 1, t_a1, times_a2, c_0_0, s_1, b_o0, m_o1, res, h => lgs_Prank_form_size_s1 fuel (lf_Prank_form_size_s1 fuel) (lg_Prank_form_size_s1 fuel) t_a1 times_a2 c_0_0 s_1 b_o0 m_o1 res h

noncomputable def lf_Prank_form_add_s1_L0 (k : (Int) → ((List (Int × Int))) → Option (Bool × Int × (List (Int × Int)))) (fuel : Nat) (r_1 : S_api_Rank × Bool) (times_a3 : Int) : List T → Nat → Int → (List (Int × Int)) → Option (Bool × Int × (List (Int × Int)))
  | [], i_8, f_9, mm_10 =>
  (k f_9 mm_10)
  | q_13 :: rest, i_8, f_9, mm_10 =>
  ((getI r_1.1.f2_Factors (i_8 : Int)).bind fun q_15 =>
  ((lf_Prank_form_size_s1 fuel q_13 (wr (times_a3 * q_15)) f_9 mm_10).bind fun r_16 =>
  (lf_Prank_form_add_s1_L0 k fuel r_1 times_a3 rest (i_8 + 1) r_16.1 r_16.2)))
noncomputable def lf_Prank_form_add_s1 (fuel : Nat) (ranks_a1 : (List S_api_Rank)) (a_a2 : At) (times_a3 : Int) (c_0_0 : Int) (s_1 : (List (Int × Int))) : Option (Bool × Int × (List (Int × Int))) :=
  ((lf_rank_find ranks_a1 a_a2.n (a_a2.ts.length : Int)).bind fun r_1 =>
  (bif (!r_1.2) then
  some (false, c_0_0, s_1)
  else
  ((lf_rank_right r_1.1).bind fun r_4 =>
  (bif (!r_4) then
  some (false, c_0_0, s_1)
  else
  ((x_rightA a_a2).bind fun r_6 =>
  (bif (!r_6) then
  some (false, c_0_0, s_1)
  else
  (lf_Prank_form_add_s1_L0 (fun f_11 mm_12 =>
  some (true, f_11, mm_12)) fuel r_1 times_a3 a_a2.ts 0 (wr (c_0_0 + (wr (times_a3 * r_1.1.f1_Const)))) s_1)))))))

set_option maxHeartbeats 1000000 in
theorem lg_Prank_form_add_s1 (fuel : Nat) (ranks_a1 : (List S_api_Rank)) (a_a2 : At) (times_a3 : Int) (c_0_0 : Int) (s_1 : (List (Int × Int))) (b_o0 : Nat) (m_o1 : Nat) (res : Bool × Int × (List (Int × Int))) (hr : lf_Prank_form_add_s1 fuel ranks_a1 a_a2 times_a3 c_0_0 s_1 = some res) : Spec Try.prog 43 [.ref b_o0 0 [], .lst (ranks_a1.map enc_S_api_Rank), encA a_a2, .int .i64 times_a3] [.cell b_o0 (.agg [.int .i64 c_0_0, .map m_o1]), .map m_o1 (mapM' (D.int .i64) (D.int .i64) s_1)] (fun d σ => d = .bool res.1 ∧ σ = [.cell b_o0 (.agg [.int .i64 res.2.1, .map m_o1]), .map m_o1 (mapM' (D.int .i64) (D.int .i64) res.2.2)]) := by
  unfold lf_Prank_form_add_s1 at hr
  refine spec_env [(0, .ref b_o0 0 []), (1, .lst (ranks_a1.map enc_S_api_Rank)), (2, encA a_a2), (3, .int .i64 times_a3)] Try.func43 rfl rfl fun K hK => ?_
  refine g_seq ?_
  refine g_run (by kernel_rfl) [(0, .d), (1, .d)] rfl ?_
  refine r_d rfl rfl rfl (s_box rfl rfl rfl) ?_
  refine r_d rfl rfl rfl (s_assign rfl rfl) ?_
  refine r_end ?_
  refine g_seq ?_
  refine g_run (by kernel_rfl) [(0, .d), (1, .d), (2, .d), (3, .d), (4, .d), (5, .d), (6, .d), (7, .d), (8, .d), (9, .d), (10, .w), (11, .w), (12, .d)] rfl ?_
  refine r_d rfl rfl rfl (s_move rfl rfl) ?_
  refine r_d rfl rfl rfl (s_fieldAddr rfl fl_api_Atom_0 rfl rfl rfl rfl) ?_
  refine r_d rfl rfl rfl (s_load rfl rfl (by exact ty_string) rfl) ?_
  refine r_d rfl rfl rfl (s_fieldAddr rfl fl_api_Atom_1 rfl rfl rfl rfl) ?_
  refine r_d rfl rfl rfl (s_load rfl rfl (by exact ty_L_api_Term) rfl) ?_
  refine r_d rfl rfl rfl (m_len (f := encT) a_a2.ts rfl el_L_api_Term rfl (asl rfl)) ?_
  obtain ⟨r_1, hr_1, hr⟩ := bindS hr
  refine r_d rfl rfl rfl (s_callD rfl cl_rank_find (.cons rfl (Wk.refl _) (.cons rfl (Wk.refl _) (.cons rfl (Wk.refl _) .nil))) (lg_rank_find _ _ _ _ hr_1)) ?_
  refine r_d rfl rfl rfl (s_move rfl rfl) ?_
  refine r_d rfl rfl rfl (s_extract rfl rfl rfl) ?_
  refine r_d rfl rfl rfl (s_extract rfl rfl rfl) ?_
  refine r_w rfl rfl rfl (s_alloc rfl zv_api_Rank) ?_
  rintro _ _ ⟨b9_1, rfl, rfl⟩
  refine r_w01 rfl rfl rfl (t_store0 _ rfl rfl rfl (Wk.refl _) (pf0 _) (by exact ty_api_Rank) (sz_S_api_Rank _) rfl rfl) ?_
  refine r_d rfl rfl rfl (s_assign rfl rfl) ?_
  refine r_end ?_
  refine g_freeze 9 b9_1 rfl (pf0 _) ?_
  refine g_seq ?_
  refine g_seq ?_
  refine g_run (by kernel_rfl) [(0, .d), (1, .d), (2, .d), (3, .d), (4, .d), (5, .d), (6, .d), (7, .d), (8, .d), (9, .d), (10, .d), (11, .d)] rfl ?_
  refine r_d rfl rfl rfl (s_move rfl rfl) ?_
  refine r_d rfl rfl rfl (s_not rfl rfl) ?_
  refine r_d rfl rfl rfl (s_move rfl rfl) ?_
  refine r_sB 25 rfl hr (fun h25_2 hr => ?_) (fun h25_2 hr => ?_)
  ·
    refine r_skip rfl rfl rfl ?_
    refine r_skip rfl rfl rfl ?_
    refine r_skip rfl rfl rfl ?_
    refine r_d rfl rfl rfl (s_pickT rfl rfl rfl) ?_
    refine r_d rfl rfl rfl (s_move rfl rfl) ?_
    refine r_skip rfl rfl rfl ?_
    refine r_skip rfl rfl rfl ?_
    refine r_skip rfl rfl rfl ?_
    refine r_d rfl rfl rfl (s_pickT rfl rfl rfl) ?_
    refine r_end ?_
    refine g_condT rfl ?_
    refine g_seq ?_
    refine g_run (by kernel_rfl) [(0, .d)] rfl ?_
    refine r_d rfl rfl rfl (s_assign rfl rfl) ?_
    refine r_end ?_
    obtain rfl := Option.some.inj hr
    refine g_ret Try.func43 _ (.cons (resTmp rfl (Wk.refl _)) .nil) ?_
    exact ⟨rfl, rfl⟩
  ·
    refine r_d rfl rfl rfl (s_load rfl rfl (by exact ty_api_Rank) (sz_S_api_Rank _)) ?_
    obtain ⟨r_4, hr_4, hr⟩ := bindS hr
    refine r_d rfl rfl rfl (s_callD rfl cl_rank_right (.cons rfl (Wk.refl _) .nil) (lg_rank_right _ _ hr_4)) ?_
    refine r_d rfl rfl rfl (s_not rfl rfl) ?_
    refine r_d rfl rfl rfl (s_pickF rfl rfl rfl) ?_
    refine r_d rfl rfl rfl (s_move rfl rfl) ?_
    refine r_sB 30 rfl hr (fun h30_4 hr => ?_) (fun h30_4 hr => ?_)
    ·
      refine r_skip rfl rfl rfl ?_
      refine r_skip rfl rfl rfl ?_
      refine r_skip rfl rfl rfl ?_
      refine r_d rfl rfl rfl (s_pickT rfl rfl rfl) ?_
      refine r_end ?_
      refine g_condT rfl ?_
      refine g_seq ?_
      refine g_run (by kernel_rfl) [(0, .d)] rfl ?_
      refine r_d rfl rfl rfl (s_assign rfl rfl) ?_
      refine r_end ?_
      obtain rfl := Option.some.inj hr
      refine g_ret Try.func43 _ (.cons (resTmp rfl (Wk.refl _)) .nil) ?_
      exact ⟨rfl, rfl⟩
    ·
      refine r_d rfl rfl rfl (s_load rfl rfl (by exact ty_api_Atom) (sz_encA _)) ?_
      obtain ⟨r_6, hr_6, hr⟩ := bindS hr
      refine r_d rfl rfl rfl (s_callD rfl cl_term_RightAtom (.cons rfl (Wk.refl _) .nil) (lx_term_RightAtom _ _ hr_6)) ?_
      refine r_d rfl rfl rfl (s_not rfl rfl) ?_
      refine r_d rfl rfl rfl (s_pickF rfl rfl rfl) ?_
      refine r_end ?_
      refine g_sB 34 rfl hr (fun h34_6 hr => ?_) (fun h34_6 hr => ?_)
      ·
        refine g_condT rfl ?_
        refine g_seq ?_
        refine g_run (by kernel_rfl) [(0, .d)] rfl ?_
        refine r_d rfl rfl rfl (s_assign rfl rfl) ?_
        refine r_end ?_
        obtain rfl := Option.some.inj hr
        refine g_ret Try.func43 _ (.cons (resTmp rfl (Wk.refl _)) .nil) ?_
        exact ⟨rfl, rfl⟩
      ·
        refine g_condF rfl ?_
        refine g_skip ?_
        refine g_seq ?_
        refine g_any (by kernel_rfl) (by kernel_rfl) [(0, .d), (1, .d), (2, .d), (3, .r), (4, .d), (5, .d), (6, .d), (7, .d), (8, .d), (9, .d), (10, .d), (11, .w)] (by kernel_rfl) ?_
        refine r_d rfl rfl rfl (s_move rfl rfl) ?_
        refine r_d rfl rfl rfl (s_nilCheckR rfl rfl) ?_
        refine r_d rfl rfl rfl (s_fieldRef rfl fl_rank_form_0 rfl) ?_
        refine r_r rfl rfl rfl (t_loadRef rfl rfl (.head _) rfl rfl (by exact ty_int) rfl) ?_
        refine r_d rfl rfl rfl (s_move rfl rfl) ?_
        refine r_d rfl rfl rfl (s_fieldAddr rfl fl_api_Rank_1 rfl rfl rfl rfl) ?_
        refine r_d rfl rfl rfl (s_load rfl rfl (by exact ty_int) rfl) ?_
        refine r_d rfl rfl rfl (s_arW rfl rfl rfl rfl) ?_
        refine r_d rfl rfl rfl (s_arW rfl rfl rfl rfl) ?_
        refine r_d rfl rfl rfl (s_nilCheckR rfl rfl) ?_
        refine r_d rfl rfl rfl (s_fieldRef rfl fl_rank_form_0 rfl) ?_
        refine r_w01 rfl rfl rfl (t_store _ rfl rfl rfl (Wk.refl _) (pf0 _) rfl rfl (by exact ty_int) rfl rfl rfl) ?_
        refine r_end ?_
        refine g_seq ?_
        refine g_seq ?_
        refine g_run (by kernel_rfl) [(0, .d), (1, .d), (2, .d), (3, .d)] rfl ?_
        refine r_d rfl rfl rfl (s_fieldAddr rfl fl_api_Atom_1 rfl rfl rfl rfl) ?_
        refine r_d rfl rfl rfl (s_load rfl rfl (by exact ty_L_api_Term) rfl) ?_
        refine r_d rfl rfl rfl (m_len (f := encT) a_a2.ts rfl el_L_api_Term rfl (asl rfl)) ?_
        refine r_d rfl rfl rfl (s_move rfl rfl) ?_
        refine r_end ?_
        obtain ⟨kk0, hkk0, hr⟩ := exK (fun k => lf_Prank_form_add_s1_L0 k fuel r_1 times_a3 a_a2.ts 0 (wr (c_0_0 + (wr (times_a3 * r_1.1.f1_Const)))) s_1) hr
        refine g_len 18 rfl (asl rfl) fun hla0 => ?_
        simp only [List.length_map] at hla0
        refine g_blockJ (fun env σ => ∃ (f_11 : Int) (mm_12 : (List (Int × Int))), env = [] ∧ σ = [.cell b_o0 (.agg [.int .i64 f_11, .map m_o1]), .map m_o1 (mapM' (D.int .i64) (D.int .i64) mm_12)] ∧ kk0 f_11 mm_12 = some res) ?_ (fun HK0 => ?_)
        ·
          rintro _ _ ⟨f_11, mm_12, rfl, rfl, hr⟩
          rw [hkk0] at hr
          refine g_seq ?_
          refine g_run (by kernel_rfl) [(0, .d)] rfl ?_
          refine r_d rfl rfl rfl (s_assign rfl rfl) ?_
          refine r_end ?_
          obtain rfl := Option.some.inj hr
          refine g_ret Try.func43 _ (.cons (resTmp rfl (Wk.refl _)) .nil) ?_
          exact ⟨rfl, rfl⟩
        ·
          refine g_sub [(0, .ref b_o0 0 []), (3, .int .i64 times_a3), (9, .ptr (enc_S_api_Rank r_1.1)), (47, .lst (a_a2.ts.map encT)), (48, .int .i64 (a_a2.ts.length : Int)), (49, .int .i64 ((0 : Nat) : Int))] (Sub.cons' rfl (Sub.cons' rfl (Sub.cons' rfl (Sub.cons' rfl (Sub.cons' rfl (Sub.cons' rfl (Sub.nil _))))))) ?_
          refine g_loop (fun n env σ => ∃ (i_8 : Nat) (f_9 : Int) (mm_10 : (List (Int × Int))), (n = a_a2.ts.length - i_8) ∧ (env = [(0, .ref b_o0 0 []), (3, .int .i64 times_a3), (9, .ptr (enc_S_api_Rank r_1.1)), (47, .lst (a_a2.ts.map encT)), (48, .int .i64 (a_a2.ts.length : Int)), (49, .int .i64 (i_8 : Int))]) ∧ (σ = [.cell b_o0 (.agg [.int .i64 f_9, .map m_o1]), .map m_o1 (mapM' (D.int .i64) (D.int .i64) mm_10)]) ∧ (i_8 ≤ a_a2.ts.length) ∧ (lf_Prank_form_add_s1_L0 kk0 fuel r_1 times_a3 (a_a2.ts.drop i_8) i_8 f_9 mm_10 = some res)) _ ⟨0, (wr (c_0_0 + (wr (times_a3 * r_1.1.f1_Const)))), s_1, rfl, rfl, rfl, Nat.zero_le _, hr⟩ ?_
          rintro n _ _ ⟨i_8, f_9, mm_10, rfl, rfl, rfl, hi0, hr⟩ IH0
          rcases listStep a_a2.ts i_8 hi0 with ⟨ht0, hd0, he0⟩ | ⟨q_13, ht0, hd0, hq0, hlt0⟩
          ·
            rw [hd0, lf_Prank_form_add_s1_L0] at hr
            refine g_seq ?_
            refine g_run (by kernel_rfl) [(0, .d)] rfl ?_
            refine r_d rfl rfl rfl (s_cmp rfl rfl rfl rfl) ?_
            refine r_end ?_
            refine g_seq ?_
            refine g_known 50 false rfl ht0 ?_
            refine g_condF rfl ?_
            refine g_exit rfl ?_
            refine g_sub [] (Sub.nil _) ?_
            exact HK0 _ _ ⟨f_9, mm_10, rfl, rfl, hr⟩
          ·
            rw [hd0, lf_Prank_form_add_s1_L0] at hr
            refine g_seq ?_
            refine g_run (by kernel_rfl) [(0, .d)] rfl ?_
            refine r_d rfl rfl rfl (s_cmp rfl rfl rfl rfl) ?_
            refine r_end ?_
            refine g_seq ?_
            refine g_known 50 true rfl ht0 ?_
            refine g_condT rfl ?_
            refine g_skip ?_
            refine g_seq ?_
            refine g_block ?_
            refine g_seq ?_
            refine g_run (by kernel_rfl) [(0, .d), (1, .d), (2, .d), (3, .w), (4, .d), (5, .w)] rfl ?_
            refine r_d rfl rfl rfl (s_move rfl rfl) ?_
            refine r_d rfl rfl rfl (m_index (f := encT) a_a2.ts rfl el_L_api_Term rfl (asl rfl) rfl hq0 sz_encT rfl) ?_
            refine r_d rfl rfl rfl (s_load rfl rfl (by exact ty_api_Term) (sz_encT _)) ?_
            refine r_w rfl rfl rfl (s_alloc rfl zv_api_Term) ?_
            rintro _ _ ⟨b12_13, rfl, rfl⟩
            refine r_d rfl rfl rfl (s_assign rfl rfl) ?_
            refine r_w01 rfl rfl rfl (t_store0 _ rfl rfl rfl (Wk.refl _) (pf0 _) (by exact ty_api_Term) (sz_encT _) rfl rfl) ?_
            refine r_end ?_
            refine g_freeze 12 b12_13 rfl (pf0 _) ?_
            refine g_any (by kernel_rfl) (by kernel_rfl) [(0, .d), (1, .d), (2, .d), (3, .d), (4, .d), (5, .d), (6, .d), (7, .d), (8, .d), (9, .w)] (by kernel_rfl) ?_
            refine r_d rfl rfl rfl (s_move rfl rfl) ?_
            refine r_d rfl rfl rfl (s_load rfl rfl (by exact ty_api_Term) (sz_encT _)) ?_
            refine r_d rfl rfl rfl (s_move rfl rfl) ?_
            refine r_d rfl rfl rfl (s_fieldAddr rfl fl_api_Rank_2 rfl rfl rfl rfl) ?_
            refine r_d rfl rfl rfl (s_load rfl rfl (by exact ty_L_int) rfl) ?_
            refine r_d rfl rfl rfl (s_move rfl rfl) ?_
            obtain ⟨q_15, hq_15, hr⟩ := bindS hr
            refine r_d rfl rfl rfl (m_index (f := (D.int .i64)) r_1.1.f2_Factors rfl el_L_int rfl (asl rfl) rfl hq_15 (fun _ => rfl) rfl) ?_
            refine r_d rfl rfl rfl (s_load rfl rfl (by exact ty_int) rfl) ?_
            refine r_d rfl rfl rfl (s_arW rfl rfl rfl rfl) ?_
            obtain ⟨r_16, hr_16, hr⟩ := bindS hr
            refine r_w rfl rfl rfl (s_call _ rfl cl_Prank_form_size (.cons rfl (Wk.refl _) (.cons rfl (Wk.refl _) (.cons rfl (Wk.refl _) .nil))) (by exact ((pf1 _ _ _).trans (pf1 _ _ _))) (lg_Prank_form_size_s1 fuel _ _ _ _ _ _ _ hr_16)) ?_
            rintro _ _ ⟨_, ⟨rfl, rfl⟩, rfl⟩
            refine r_st ((.cell b_o0 (.agg [.int .i64 r_16.1, .map m_o1])) :: (.map m_o1 (mapM' (D.int .i64) (D.int .i64) r_16.2)) :: _) rfl ?_
            refine r_end ?_
            refine g_inBlock ?_
            refine g_run (by kernel_rfl) [(0, .d), (1, .d)] rfl ?_
            refine r_d rfl rfl rfl (s_ar (r := ((i_8 + 1 : Nat) : Int)) rfl rfl rfl (by simp [iar]) (by omega)) ?_
            refine r_d rfl rfl rfl (s_move rfl rfl) ?_
            refine r_end ?_
            refine g_sub [(0, .ref b_o0 0 []), (3, .int .i64 times_a3), (9, .ptr (enc_S_api_Rank r_1.1)), (47, .lst (a_a2.ts.map encT)), (48, .int .i64 (a_a2.ts.length : Int)), (49, .int .i64 ((i_8 + 1 : Nat) : Int))] (Sub.cons' rfl (Sub.cons' rfl (Sub.cons' rfl (Sub.cons' rfl (Sub.cons' rfl (Sub.cons' rfl (Sub.nil _))))))) ?_
            exact IH0 _ _ _ (by omega) ⟨(i_8 + 1), r_16.1, r_16.2, rfl, rfl, rfl, (by omega), hr⟩

noncomputable def lf_rank_Decreases_L2_E (k : (Int) → Option (Bool)) (r_1 : (List (Int × Bool)) × (List (Int × Bool))) (least_17 : Int) : Option (Bool) :=
  (k least_17)
noncomputable def lf_rank_Decreases_L2_B (k : (Int) → Option (Bool)) (r_1 : (List (Int × Bool)) × (List (Int × Bool))) (q_20 : Int × Int) (least_17 : Int) : Option ((Bool) ⊕ (Int)) :=
  (bif (decide (q_20.2 < (0 : Int))) then
  (bif (!((mget r_1.2 q_20.1).getD false)) then
  (Option.map Sum.inl (some (false)))
  else
  some (.inr ((wr (least_17 + q_20.2)))))
  else
  some (.inr ((wr (least_17 + q_20.2)))))
noncomputable def lf_rank_Decreases_L2 (k : (Int) → Option (Bool)) (r_1 : (List (Int × Bool)) × (List (Int × Bool))) (l : (List (Int × Int))) (least_17 : Int) : Option (Bool) :=
  permO (fun l' => mapLoop (fun q (v : Int) => lf_rank_Decreases_L2_B k r_1 q v) (fun v => lf_rank_Decreases_L2_E k r_1 v) l' (least_17)) l

noncomputable def lf_rank_Decreases_L3 (k : Option (Bool)) (r_1 : (List (Int × Bool)) × (List (Int × Bool))) : List Int → Option (Bool)
  | [] =>
  k
  | q_34 :: rest =>
  (bif (!((mget r_1.1 q_34).getD false)) then
  (bif (!((mget r_1.2 q_34).getD false)) then
  some (false)
  else
  (lf_rank_Decreases_L3 k r_1 rest))
  else
  (lf_rank_Decreases_L3 k r_1 rest))

noncomputable def lf_rank_Decreases_L4 (k : Option (Bool)) (r_1 : (List (Int × Bool)) × (List (Int × Bool))) : List Int → Option (Bool)
  | [] =>
  k
  | q_43 :: rest =>
  (bif (!((mget r_1.1 q_43).getD false)) then
  (bif (!((mget r_1.2 q_43).getD false)) then
  some (false)
  else
  (lf_rank_Decreases_L4 k r_1 rest))
  else
  (lf_rank_Decreases_L4 k r_1 rest))

noncomputable def lf_rank_Decreases_L1 (k : (Int) → ((List (Int × Int))) → Option (Bool)) (fuel : Nat) (r_1 : (List (Int × Bool)) × (List (Int × Bool))) (r_a1 : S_api_Rule) (ranks_a0 : (List S_api_Rank)) : List Gl → Int → (List (Int × Int)) → Option (Bool)
  | [], change_12, mm_13 =>
  (k change_12 mm_13)
  | q_23 :: rest, change_12, mm_13 =>
  (bif (q_23.op == (3 : Int)) then
  some (false)
  else
  (bif (q_23.op == (0 : Int)) then
  (bif ((r_a1.f2_Remove.length : Int) == (0 : Int)) then
  some (false)
  else
  (bif (q_23.op != (0 : Int)) then
  (lf_rank_Decreases_L1 k fuel r_1 r_a1 ranks_a0 rest change_12 mm_13)
  else
  ((x_varsA (⟨q_23.n, q_23.ts⟩ : At)).bind fun r_30 =>
  (lf_rank_Decreases_L3 (((lf_Prank_form_add_s1 fuel ranks_a0 (⟨q_23.n, q_23.ts⟩ : At) (-1) change_12 mm_13).bind fun r_32 =>
  (bif (!r_32.1) then
  some (false)
  else
  (lf_rank_Decreases_L1 k fuel r_1 r_a1 ranks_a0 rest r_32.2.1 r_32.2.2)))) r_1 r_30))))
  else
  (bif (q_23.op != (0 : Int)) then
  (lf_rank_Decreases_L1 k fuel r_1 r_a1 ranks_a0 rest change_12 mm_13)
  else
  ((x_varsA (⟨q_23.n, q_23.ts⟩ : At)).bind fun r_39 =>
  (lf_rank_Decreases_L4 (((lf_Prank_form_add_s1 fuel ranks_a0 (⟨q_23.n, q_23.ts⟩ : At) (-1) change_12 mm_13).bind fun r_41 =>
  (bif (!r_41.1) then
  some (false)
  else
  (lf_rank_Decreases_L1 k fuel r_1 r_a1 ranks_a0 rest r_41.2.1 r_41.2.2)))) r_1 r_39)))))

noncomputable def lf_rank_Decreases_L0 (k : (Int) → ((List (Int × Int))) → Option (Bool)) (fuel : Nat) (ranks_a0 : (List S_api_Rank)) : List At → Int → (List (Int × Int)) → Option (Bool)
  | [], change_7, mm_8 =>
  (k change_7 mm_8)
  | q_46 :: rest, change_7, mm_8 =>
  ((lf_Prank_form_add_s1 fuel ranks_a0 q_46 1 change_7 mm_8).bind fun r_48 =>
  (bif (!r_48.1) then
  some (false)
  else
  (lf_rank_Decreases_L0 k fuel ranks_a0 rest r_48.2.1 r_48.2.2)))
noncomputable def lf_rank_Decreases (fuel : Nat) (ranks_a0 : (List S_api_Rank)) (r_a1 : S_api_Rule) : Option (Bool) :=
  ((lf_rank_variables r_a1).bind fun r_1 =>
  (lf_rank_Decreases_L0 (fun change_9 mm_10 =>
  (lf_rank_Decreases_L1 (fun change_14 mm_15 =>
  (lf_rank_Decreases_L2 (fun least_18 =>
  (bif (decide (least_18 ≥ (1 : Int))) then
  some (true)
  else
  some (((r_a1.f2_Remove.length : Int) == (0 : Int))))) r_1 mm_15 change_14)) fuel r_1 r_a1 ranks_a0 r_a1.f4_Body change_9 mm_10)) fuel ranks_a0 r_a1.f2_Remove 0 []))

set_option maxHeartbeats 1000000 in
theorem lg_rank_Decreases (fuel : Nat) (ranks_a0 : (List S_api_Rank)) (r_a1 : S_api_Rule) (res : Bool) (hr : lf_rank_Decreases fuel ranks_a0 r_a1 = some res) : Gives Try.prog 32 [.lst (ranks_a0.map enc_S_api_Rank), enc_S_api_Rule r_a1] (.bool res) := by
  unfold lf_rank_Decreases at hr
  refine spec_env [(0, .lst (ranks_a0.map enc_S_api_Rank)), (1, enc_S_api_Rule r_a1)] Try.func32 rfl rfl fun K hK => ?_
  refine g_seq ?_
  refine g_run (by kernel_rfl) [(0, .d), (1, .d)] rfl ?_
  refine r_d rfl rfl rfl (s_box rfl rfl rfl) ?_
  refine r_d rfl rfl rfl (s_assign rfl rfl) ?_
  refine r_end ?_
  refine g_seq ?_
  refine g_run (by kernel_rfl) [(0, .d), (1, .w), (2, .d), (3, .d), (4, .d), (5, .d), (6, .d)] rfl ?_
  refine r_d rfl rfl rfl (s_load rfl rfl (by exact ty_api_Rule) (sz_S_api_Rule _)) ?_
  obtain ⟨r_1, hr_1, hr⟩ := bindS hr
  refine r_w rfl rfl rfl (s_call _ rfl cl_rank_variables (.cons rfl (Wk.refl _) .nil) (by exact (List.Perm.refl _)) (lg_rank_variables _ _ hr_1)) ?_
  rintro _ _ ⟨_, ⟨m20_1, m20_2, rfl, rfl⟩, rfl⟩
  refine r_st ((.map m20_1 (mapM' (D.int .i64) D.bool r_1.1)) :: (.map m20_2 (mapM' (D.int .i64) D.bool r_1.2)) :: _) rfl ?_
  refine r_d rfl rfl rfl (s_move rfl rfl) ?_
  refine r_d rfl rfl rfl (s_extract rfl rfl rfl) ?_
  refine r_d rfl rfl rfl (s_extract rfl rfl rfl) ?_
  refine r_d rfl rfl rfl (s_assign rfl rfl) ?_
  refine r_d rfl rfl rfl (s_assign rfl rfl) ?_
  refine r_end ?_
  refine g_seq ?_
  refine g_run (by kernel_rfl) [(0, .w), (1, .d), (2, .w), (3, .w)] rfl ?_
  refine r_w rfl rfl rfl (m_makeMap (α := Int) (β := Int) (key := (D.int .i64)) (g := (D.int .i64)) rfl) ?_
  rintro _ _ ⟨m23_3, rfl, rfl⟩
  refine r_d rfl rfl rfl (s_build rfl btx_rank_form (.cons rfl (Wk.refl _) .nil) (.cons rfl rfl rfl (.nil _))) ?_
  refine r_w rfl rfl rfl (s_alloc rfl (ZeroV.agg btx_rank_form)) ?_
  rintro _ _ ⟨b7_4, rfl, rfl⟩
  refine r_w01 rfl rfl rfl (t_store0 _ rfl rfl rfl (Wk.refl _) (pf0 _) (by exact ty_rank_form) rfl rfl rfl) ?_
  refine r_end ?_
  refine g_seq ?_
  refine g_seq ?_
  refine g_run (by kernel_rfl) [(0, .d), (1, .d), (2, .d), (3, .d)] rfl ?_
  refine r_d rfl rfl rfl (s_fieldAddr rfl fl_api_Rule_2 rfl rfl rfl rfl) ?_
  refine r_d rfl rfl rfl (s_load rfl rfl (by exact ty_L_api_Atom) rfl) ?_
  refine r_d rfl rfl rfl (m_len (f := encA) r_a1.f2_Remove rfl el_L_api_Atom rfl (asl rfl)) ?_
  refine r_d rfl rfl rfl (s_move rfl rfl) ?_
  refine r_end ?_
  obtain ⟨kk0, hkk0, hr⟩ := exK (fun k => lf_rank_Decreases_L0 k fuel ranks_a0 r_a1.f2_Remove 0 []) hr
  refine g_len 26 rfl (asl rfl) fun hla0 => ?_
  simp only [List.length_map] at hla0
  refine g_blockJ (fun env σ => ∃ (change_9 : Int) (mm_10 : (List (Int × Int))), env = [(0, .lst (ranks_a0.map enc_S_api_Rank)), (3, .ptr (enc_S_api_Rule r_a1)), (5, .map m20_1), (6, .map m20_2), (7, .ref b7_4 0 [])] ∧ σ = [.map m20_1 (mapM' (D.int .i64) D.bool r_1.1), .map m20_2 (mapM' (D.int .i64) D.bool r_1.2), .cell b7_4 (.agg [.int .i64 change_9, .map m23_3]), .map m23_3 (mapM' (D.int .i64) (D.int .i64) mm_10)] ∧ kk0 change_9 mm_10 = some res) ?_ (fun HK0 => ?_)
  ·
    rintro _ _ ⟨change_9, mm_10, rfl, rfl, hr⟩
    rw [hkk0] at hr
    refine g_seq ?_
    refine g_seq ?_
    refine g_run (by kernel_rfl) [(0, .d), (1, .d), (2, .d), (3, .d)] rfl ?_
    refine r_d rfl rfl rfl (s_fieldAddr rfl fl_api_Rule_4 rfl rfl rfl rfl) ?_
    refine r_d rfl rfl rfl (s_load rfl rfl (by exact ty_L_api_Goal) rfl) ?_
    refine r_d rfl rfl rfl (m_len (f := encG) r_a1.f4_Body rfl el_L_api_Goal rfl (asl rfl)) ?_
    refine r_d rfl rfl rfl (s_move rfl rfl) ?_
    refine r_end ?_
    obtain ⟨kk1, hkk1, hr⟩ := exK (fun k => lf_rank_Decreases_L1 k fuel r_1 r_a1 ranks_a0 r_a1.f4_Body change_9 mm_10) hr
    refine g_len 38 rfl (asl rfl) fun hla1 => ?_
    simp only [List.length_map] at hla1
    refine g_blockJ (fun env σ => ∃ (change_14 : Int) (mm_15 : (List (Int × Int))), env = [(3, .ptr (enc_S_api_Rule r_a1)), (6, .map m20_2), (7, .ref b7_4 0 [])] ∧ σ = [.map m20_2 (mapM' (D.int .i64) D.bool r_1.2), .cell b7_4 (.agg [.int .i64 change_14, .map m23_3]), .map m23_3 (mapM' (D.int .i64) (D.int .i64) mm_15)] ∧ kk1 change_14 mm_15 = some res) ?_ (fun HK1 => ?_)
    ·
      rintro _ _ ⟨change_14, mm_15, rfl, rfl, hr⟩
      rw [hkk1] at hr
      refine g_seq ?_
      refine g_run (by kernel_rfl) [(0, .d), (1, .r), (2, .d)] rfl ?_
      refine r_d rfl rfl rfl (s_fieldRef rfl fl_rank_form_0 rfl) ?_
      refine r_r rfl rfl rfl (t_loadRef rfl rfl (.tail _ (.head _)) rfl rfl (by exact ty_int) rfl) ?_
      refine r_d rfl rfl rfl (s_assign rfl rfl) ?_
      refine r_end ?_
      refine g_seq ?_
      refine g_seq ?_
      refine g_run (by kernel_rfl) [(0, .d), (1, .r), (2, .w)] rfl ?_
      refine r_d rfl rfl rfl (s_fieldRef rfl fl_rank_form_1 rfl) ?_
      refine r_r rfl rfl rfl (t_loadRef rfl rfl (.tail _ (.head _)) rfl rfl (by exact ty_map_int_int) rfl) ?_
      refine r_w rfl rfl rfl (s_range (key := (D.int .i64)) (g := (D.int .i64)) (l := mm_15) rfl Try.underlying80 rfl (pf2 _ _ _ _)) ?_
      rintro _ _ ⟨b93_15, es_b93_15, cl_b93_15, rfl, rfl, hes_b93_15⟩
      refine r_end ?_
      obtain ⟨kk2, hkk2, hr⟩ := exK (fun k => lf_rank_Decreases_L2 k r_1 mm_15 change_14) hr
      refine g_blockJ (fun env σ => ∃ (least_18 : Int), env = [(3, .ptr (enc_S_api_Rule r_a1)), (15, .int .i64 least_18)] ∧ σ = [] ∧ kk2 least_18 = some res) ?_ (fun HK2 => ?_)
      ·
        rintro _ _ ⟨least_18, rfl, rfl, hr⟩
        rw [hkk2] at hr
        refine g_seq ?_
        refine g_run (by kernel_rfl) [(0, .d), (1, .d), (2, .d), (3, .d), (4, .d), (5, .d), (6, .d), (7, .d), (8, .d)] rfl ?_
        refine r_d rfl rfl rfl (s_move rfl rfl) ?_
        refine r_d rfl rfl rfl (s_cmp rfl rfl rfl rfl) ?_
        refine r_d rfl rfl rfl (s_move rfl rfl) ?_
        refine r_sB 112 rfl hr (fun h112_18 hr => ?_) (fun h112_18 hr => ?_)
        ·
          refine r_skip rfl rfl rfl ?_
          refine r_skip rfl rfl rfl ?_
          refine r_skip rfl rfl rfl ?_
          refine r_skip rfl rfl rfl ?_
          refine r_d rfl rfl rfl (s_pickT rfl rfl rfl) ?_
          refine r_d rfl rfl rfl (s_assign rfl rfl) ?_
          refine r_end ?_
          obtain rfl := Option.some.inj hr
          refine g_ret Try.func32 _ (.cons (resTmp rfl (Wk.refl _)) .nil) ?_
          rfl
        ·
          refine r_d rfl rfl rfl (s_fieldAddr rfl fl_api_Rule_2 rfl rfl rfl rfl) ?_
          refine r_d rfl rfl rfl (s_load rfl rfl (by exact ty_L_api_Atom) rfl) ?_
          refine r_d rfl rfl rfl (m_len (f := encA) r_a1.f2_Remove rfl el_L_api_Atom rfl (asl rfl)) ?_
          refine r_d rfl rfl rfl (s_cmp rfl rfl rfl rfl) ?_
          refine r_d rfl rfl rfl (s_pickF rfl rfl rfl) ?_
          refine r_d rfl rfl rfl (s_assign rfl rfl) ?_
          refine r_end ?_
          obtain rfl := Option.some.inj hr
          refine g_ret Try.func32 _ (.cons (resTmp rfl (Wk.refl _)) .nil) ?_
          rfl
      ·
        refine g_sub [(3, .ptr (enc_S_api_Rule r_a1)), (6, .map m20_2), (93, .ref b93_15 0 []), (15, .int .i64 change_14)] (Sub.cons' rfl (Sub.cons' rfl (Sub.cons' rfl (Sub.cons' rfl (Sub.nil _))))) ?_
        refine g_perm [_, _, _] _ (((pf1 _ _ _).trans (pf1 _ _ _)).trans (pf2 _ _ _ _)) ?_
        refine g_loop (fun n env σ => ∃ (least_17 : Int) (seen2 : Array Nat) (last2 : Nat), (n = (remOf es_b93_15 seen2 mm_15).length) ∧ (env = [(3, .ptr (enc_S_api_Rule r_a1)), (6, .map m20_2), (93, .ref b93_15 0 []), (15, .int .i64 least_17)]) ∧ (σ = [.map m20_2 (mapM' (D.int .i64) D.bool r_1.2), .iter b93_15 m23_3 cl_b93_15 seen2 last2, .mapE m23_3 (mapM' (D.int .i64) (D.int .i64) mm_15) es_b93_15 cl_b93_15]) ∧ (cl_b93_15 ≤ last2) ∧ (∀ l', l'.Perm (remOf es_b93_15 seen2 mm_15) → mapLoop (fun q (v : Int) => lf_rank_Decreases_L2_B kk2 r_1 q v) (fun v => lf_rank_Decreases_L2_E kk2 r_1 v) l' (least_17) = some res)) _ ⟨change_14, #[], cl_b93_15, rfl, rfl, rfl, Nat.le_refl _, fun l hl => permO_all hr l (by rw [remOf_start hes_b93_15] at hl; exact hl)⟩ ?_
        rintro n _ _ ⟨least_17, seen2, last2, rfl, rfl, rfl, hi2, hr⟩ IH2
        refine g_seq ?_
        refine g_run (by kernel_rfl) [(0, .w), (1, .d)] rfl ?_
        refine r_w rfl rfl rfl (s_next rfl rfl ((pf2 _ _ _ _).trans (pf2 _ _ _ _)) hi2) ?_
        rintro _ _ (⟨hrem2, rfl, rfl⟩ | ⟨q_20, e_q_20, hp_q_20, hc_q_20, rfl, rfl⟩)
        ·
          have hr : lf_rank_Decreases_L2_E kk2 r_1 least_17 = some res := mapEnd hrem2 hr
          unfold lf_rank_Decreases_L2_E at hr
          refine r_d rfl rfl rfl (s_extract rfl rfl rfl) ?_
          refine r_end ?_
          refine g_seq ?_
          refine g_condF rfl ?_
          refine g_exit rfl ?_
          refine g_sub [(3, .ptr (enc_S_api_Rule r_a1)), (15, .int .i64 least_17)] (Sub.cons' rfl (Sub.cons' rfl (Sub.nil _))) ?_
          refine g_perm [] _ (pf0 _) ?_
          exact HK2 _ _ ⟨least_17, rfl, rfl, hr⟩
        ·
          obtain ⟨z2, hr, hz2⟩ := mapStep hp_q_20 hr
          have hr : lf_rank_Decreases_L2_B kk2 r_1 q_20 least_17 = some z2 := hr
          unfold lf_rank_Decreases_L2_B at hr
          refine r_d rfl rfl rfl (s_extract rfl rfl rfl) ?_
          refine r_end ?_
          refine g_seq ?_
          refine g_condT rfl ?_
          refine g_skip ?_
          refine g_block ?_
          refine g_seq ?_
          refine g_run (by kernel_rfl) [(0, .r), (1, .d), (2, .d), (3, .d), (4, .d)] rfl ?_
          refine r_r rfl rfl rfl (s_entry (key := (D.int .i64)) (g := (D.int .i64)) rfl rfl (.head _) (.tail _ (.head _)) hc_q_20) ?_
          refine r_d rfl rfl rfl (s_extract rfl rfl rfl) ?_
          refine r_d rfl rfl rfl (s_extract rfl rfl rfl) ?_
          refine r_d rfl rfl rfl (s_assign rfl rfl) ?_
          refine r_d rfl rfl rfl (s_assign rfl rfl) ?_
          refine r_end ?_
          refine g_seq ?_
          refine g_seq ?_
          refine g_run (by kernel_rfl) [(0, .d), (1, .d), (2, .d), (3, .d), (4, .d), (5, .r), (6, .d), (7, .d)] rfl ?_
          refine r_d rfl rfl rfl (s_move rfl rfl) ?_
          refine r_d rfl rfl rfl (s_cmp rfl rfl rfl rfl) ?_
          refine r_d rfl rfl rfl (s_move rfl rfl) ?_
          refine r_sB 101 rfl hr (fun h101_20 hr => ?_) (fun h101_20 hr => ?_)
          ·
            refine r_d rfl rfl rfl (s_move rfl rfl) ?_
            refine r_d rfl rfl rfl (s_move rfl rfl) ?_
            refine r_r rfl rfl rfl (m_lookup1 (key := (D.int .i64)) (g := D.bool) r_1.2 q_20.1 false rfl Try.underlying77 (keyInt Try.underlying3) zm_bool rfl rfl (.tail _ (.tail _ (.head _)))) ?_
            refine r_d rfl rfl rfl (s_not rfl rfl) ?_
            refine r_d rfl rfl rfl (s_pickT rfl rfl rfl) ?_
            refine r_end ?_
            refine g_sB 106 rfl hr (fun h106_21 hr => ?_) (fun h106_21 hr => ?_)
            ·
              refine g_condT rfl ?_
              refine g_seq ?_
              refine g_run (by kernel_rfl) [(0, .d)] rfl ?_
              refine r_d rfl rfl rfl (s_assign rfl rfl) ?_
              refine r_end ?_
              refine g_mapClose ((pf1 _ _ _).trans (pf1 _ _ _)) ?_
              have hr := mapOut hz2 hr
              obtain rfl := Option.some.inj hr
              refine g_ret Try.func32 _ (.cons (resTmp rfl (Wk.refl _)) .nil) ?_
              rfl
            ·
              refine g_condF rfl ?_
              refine g_skip ?_
              refine g_run (by kernel_rfl) [(0, .d), (1, .d), (2, .d), (3, .d)] rfl ?_
              refine r_d rfl rfl rfl (s_move rfl rfl) ?_
              refine r_d rfl rfl rfl (s_move rfl rfl) ?_
              refine r_d rfl rfl rfl (s_arW rfl rfl rfl rfl) ?_
              refine r_d rfl rfl rfl (s_assign rfl rfl) ?_
              refine r_end ?_
              refine g_inBlock ?_
              refine g_sub [(3, .ptr (enc_S_api_Rule r_a1)), (6, .map m20_2), (93, .ref b93_15 0 []), (15, .int .i64 (wr (least_17 + q_20.2)))] (Sub.cons' rfl (Sub.cons' rfl (Sub.cons' rfl (Sub.cons' rfl (Sub.nil _))))) ?_
              refine g_perm [_, _, _] _ (((pf1 _ _ _).trans (pf1 _ _ _)).trans (pf2 _ _ _ _)) ?_
              exact IH2 _ _ _ (by have := (hp_q_20).length_eq; simp only [List.length_cons] at this; omega) ⟨(wr (least_17 + q_20.2)), _, _, rfl, rfl, rfl, Nat.le_refl _, mapBack hz2 hr⟩
          ·
            refine r_skip rfl rfl rfl ?_
            refine r_skip rfl rfl rfl ?_
            refine r_skip rfl rfl rfl ?_
            refine r_skip rfl rfl rfl ?_
            refine r_d rfl rfl rfl (s_pickF rfl rfl rfl) ?_
            refine r_end ?_
            refine g_condF rfl ?_
            refine g_skip ?_
            refine g_run (by kernel_rfl) [(0, .d), (1, .d), (2, .d), (3, .d)] rfl ?_
            refine r_d rfl rfl rfl (s_move rfl rfl) ?_
            refine r_d rfl rfl rfl (s_move rfl rfl) ?_
            refine r_d rfl rfl rfl (s_arW rfl rfl rfl rfl) ?_
            refine r_d rfl rfl rfl (s_assign rfl rfl) ?_
            refine r_end ?_
            refine g_inBlock ?_
            refine g_sub [(3, .ptr (enc_S_api_Rule r_a1)), (6, .map m20_2), (93, .ref b93_15 0 []), (15, .int .i64 (wr (least_17 + q_20.2)))] (Sub.cons' rfl (Sub.cons' rfl (Sub.cons' rfl (Sub.cons' rfl (Sub.nil _))))) ?_
            refine g_perm [_, _, _] _ (((pf1 _ _ _).trans (pf1 _ _ _)).trans (pf2 _ _ _ _)) ?_
            exact IH2 _ _ _ (by have := (hp_q_20).length_eq; simp only [List.length_cons] at this; omega) ⟨(wr (least_17 + q_20.2)), _, _, rfl, rfl, rfl, Nat.le_refl _, mapBack hz2 hr⟩
    ·
      refine g_sub [(0, .lst (ranks_a0.map enc_S_api_Rank)), (3, .ptr (enc_S_api_Rule r_a1)), (5, .map m20_1), (6, .map m20_2), (7, .ref b7_4 0 []), (38, .lst (r_a1.f4_Body.map encG)), (39, .int .i64 (r_a1.f4_Body.length : Int)), (40, .int .i64 ((0 : Nat) : Int))] (Sub.cons' rfl (Sub.cons' rfl (Sub.cons' rfl (Sub.cons' rfl (Sub.cons' rfl (Sub.cons' rfl (Sub.cons' rfl (Sub.cons' rfl (Sub.nil _))))))))) ?_
      refine g_loop (fun n env σ => ∃ (i_11 : Nat) (change_12 : Int) (mm_13 : (List (Int × Int))), (n = r_a1.f4_Body.length - i_11) ∧ (env = [(0, .lst (ranks_a0.map enc_S_api_Rank)), (3, .ptr (enc_S_api_Rule r_a1)), (5, .map m20_1), (6, .map m20_2), (7, .ref b7_4 0 []), (38, .lst (r_a1.f4_Body.map encG)), (39, .int .i64 (r_a1.f4_Body.length : Int)), (40, .int .i64 (i_11 : Int))]) ∧ (σ = [.map m20_1 (mapM' (D.int .i64) D.bool r_1.1), .map m20_2 (mapM' (D.int .i64) D.bool r_1.2), .cell b7_4 (.agg [.int .i64 change_12, .map m23_3]), .map m23_3 (mapM' (D.int .i64) (D.int .i64) mm_13)]) ∧ (i_11 ≤ r_a1.f4_Body.length) ∧ (lf_rank_Decreases_L1 kk1 fuel r_1 r_a1 ranks_a0 (r_a1.f4_Body.drop i_11) change_12 mm_13 = some res)) _ ⟨0, change_9, mm_10, rfl, rfl, rfl, Nat.zero_le _, hr⟩ ?_
      rintro n _ _ ⟨i_11, change_12, mm_13, rfl, rfl, rfl, hi1, hr⟩ IH1
      rcases listStep r_a1.f4_Body i_11 hi1 with ⟨ht1, hd1, he1⟩ | ⟨q_23, ht1, hd1, hq1, hlt1⟩
      ·
        rw [hd1, lf_rank_Decreases_L1] at hr
        refine g_seq ?_
        refine g_run (by kernel_rfl) [(0, .d)] rfl ?_
        refine r_d rfl rfl rfl (s_cmp rfl rfl rfl rfl) ?_
        refine r_end ?_
        refine g_seq ?_
        refine g_known 41 false rfl ht1 ?_
        refine g_condF rfl ?_
        refine g_exit rfl ?_
        refine g_sub [(3, .ptr (enc_S_api_Rule r_a1)), (6, .map m20_2), (7, .ref b7_4 0 [])] (Sub.cons' rfl (Sub.cons' rfl (Sub.cons' rfl (Sub.nil _)))) ?_
        refine g_perm [_, _, _] _ (((pf3 _ _ _ _ _).trans (pf3 _ _ _ _ _)).trans (pf3 _ _ _ _ _)) ?_
        exact HK1 _ _ ⟨change_12, mm_13, rfl, rfl, hr⟩
      ·
        rw [hd1, lf_rank_Decreases_L1] at hr
        refine g_seq ?_
        refine g_run (by kernel_rfl) [(0, .d)] rfl ?_
        refine r_d rfl rfl rfl (s_cmp rfl rfl rfl rfl) ?_
        refine r_end ?_
        refine g_seq ?_
        refine g_known 41 true rfl ht1 ?_
        refine g_condT rfl ?_
        refine g_skip ?_
        refine g_seq ?_
        refine g_block ?_
        refine g_seq ?_
        refine g_run (by kernel_rfl) [(0, .d), (1, .d), (2, .w), (3, .w)] rfl ?_
        refine r_d rfl rfl rfl (m_index (f := encG) r_a1.f4_Body rfl el_L_api_Goal rfl (asl rfl) rfl hq1 sz_encG rfl) ?_
        refine r_d rfl rfl rfl (s_load rfl rfl (by exact ty_api_Goal) (sz_encG _)) ?_
        refine r_w rfl rfl rfl (s_alloc rfl zv_api_Goal) ?_
        rintro _ _ ⟨b11_23, rfl, rfl⟩
        refine r_w01 rfl rfl rfl (t_store0 _ rfl rfl rfl (Wk.refl _) (pf0 _) (by exact ty_api_Goal) (sz_encG _) rfl rfl) ?_
        refine r_end ?_
        refine g_freeze 11 b11_23 rfl (pf0 _) ?_
        refine g_seq ?_
        refine g_block ?_
        refine g_seq ?_
        refine g_seq ?_
        refine g_run (by kernel_rfl) [(0, .d), (1, .d), (2, .d), (3, .d)] rfl ?_
        refine r_d rfl rfl rfl (s_fieldAddr rfl fl_api_Goal_0 rfl rfl rfl rfl) ?_
        refine r_d rfl rfl rfl (s_load rfl rfl (by exact ty_int) rfl) ?_
        refine r_d rfl rfl rfl (s_cmp rfl rfl rfl rfl) ?_
        refine r_d rfl rfl rfl (s_assign rfl rfl) ?_
        refine r_end ?_
        refine g_sB 44 rfl hr (fun h44_24 hr => ?_) (fun h44_24 hr => ?_)
        ·
          refine g_condT rfl ?_
          refine g_skip ?_
          refine g_condT rfl ?_
          refine g_seq ?_
          refine g_run (by kernel_rfl) [(0, .d)] rfl ?_
          refine r_d rfl rfl rfl (s_assign rfl rfl) ?_
          refine r_end ?_
          obtain rfl := Option.some.inj hr
          refine g_ret Try.func32 _ (.cons (resTmp rfl (Wk.refl _)) .nil) ?_
          rfl
        ·
          refine g_condF rfl ?_
          refine g_run (by kernel_rfl) [(0, .d), (1, .d), (2, .d), (3, .d), (4, .d), (5, .d), (6, .d), (7, .d), (8, .d), (9, .d)] rfl ?_
          refine r_d rfl rfl rfl (s_fieldAddr rfl fl_api_Goal_0 rfl rfl rfl rfl) ?_
          refine r_d rfl rfl rfl (s_load rfl rfl (by exact ty_int) rfl) ?_
          refine r_d rfl rfl rfl (s_cmp rfl rfl rfl rfl) ?_
          refine r_d rfl rfl rfl (s_move rfl rfl) ?_
          refine r_sB 51 rfl hr (fun h51_25 hr => ?_) (fun h51_25 hr => ?_)
          ·
            refine r_d rfl rfl rfl (s_fieldAddr rfl fl_api_Rule_2 rfl rfl rfl rfl) ?_
            refine r_d rfl rfl rfl (s_load rfl rfl (by exact ty_L_api_Atom) rfl) ?_
            refine r_d rfl rfl rfl (m_len (f := encA) r_a1.f2_Remove rfl el_L_api_Atom rfl (asl rfl)) ?_
            refine r_d rfl rfl rfl (s_cmp rfl rfl rfl rfl) ?_
            refine r_d rfl rfl rfl (s_pickT rfl rfl rfl) ?_
            refine r_d rfl rfl rfl (s_assign rfl rfl) ?_
            refine r_end ?_
            refine g_sB 44 rfl hr (fun h44_26 hr => ?_) (fun h44_26 hr => ?_)
            ·
              refine g_condT rfl ?_
              refine g_seq ?_
              refine g_run (by kernel_rfl) [(0, .d)] rfl ?_
              refine r_d rfl rfl rfl (s_assign rfl rfl) ?_
              refine r_end ?_
              obtain rfl := Option.some.inj hr
              refine g_ret Try.func32 _ (.cons (resTmp rfl (Wk.refl _)) .nil) ?_
              rfl
            ·
              refine g_condF rfl ?_
              refine g_seq ?_
              refine g_run (by kernel_rfl) [(0, .d), (1, .d), (2, .d), (3, .d)] rfl ?_
              refine r_d rfl rfl rfl (s_fieldAddr rfl fl_api_Goal_0 rfl rfl rfl rfl) ?_
              refine r_d rfl rfl rfl (s_load rfl rfl (by exact ty_int) rfl) ?_
              refine r_d rfl rfl rfl (s_cmp rfl rfl rfl rfl) ?_
              refine r_d rfl rfl rfl (s_assign rfl rfl) ?_
              refine r_end ?_
              refine g_sB 57 rfl hr (fun h57_27 hr => ?_) (fun h57_27 hr => ?_)
              ·
                refine g_condT rfl ?_
                refine g_exit rfl ?_
                refine g_run (by kernel_rfl) [(0, .d), (1, .d)] rfl ?_
                refine r_d rfl rfl rfl (s_ar (r := ((i_11 + 1 : Nat) : Int)) rfl rfl rfl (by simp [iar]) (by omega)) ?_
                refine r_d rfl rfl rfl (s_move rfl rfl) ?_
                refine r_end ?_
                refine g_sub [(0, .lst (ranks_a0.map enc_S_api_Rank)), (3, .ptr (enc_S_api_Rule r_a1)), (5, .map m20_1), (6, .map m20_2), (7, .ref b7_4 0 []), (38, .lst (r_a1.f4_Body.map encG)), (39, .int .i64 (r_a1.f4_Body.length : Int)), (40, .int .i64 ((i_11 + 1 : Nat) : Int))] (Sub.cons' rfl (Sub.cons' rfl (Sub.cons' rfl (Sub.cons' rfl (Sub.cons' rfl (Sub.cons' rfl (Sub.cons' rfl (Sub.cons' rfl (Sub.nil _))))))))) ?_
                exact IH1 _ _ _ (by omega) ⟨(i_11 + 1), change_12, mm_13, rfl, rfl, rfl, (by omega), hr⟩
              ·
                refine g_condF rfl ?_
                refine g_skip ?_
                refine g_inBlock ?_
                refine g_seq ?_
                refine g_run (by kernel_rfl) [(0, .d), (1, .d), (2, .d), (3, .d), (4, .d), (5, .w), (6, .w)] rfl ?_
                refine r_d rfl rfl rfl (s_fieldAddr rfl fl_api_Goal_1 rfl rfl rfl rfl) ?_
                refine r_d rfl rfl rfl (s_load rfl rfl (by exact ty_string) rfl) ?_
                refine r_d rfl rfl rfl (s_fieldAddr rfl fl_api_Goal_2 rfl rfl rfl rfl) ?_
                refine r_d rfl rfl rfl (s_load rfl rfl (by exact ty_L_api_Term) rfl) ?_
                refine r_d rfl rfl rfl (s_build rfl bt_api_Atom (.cons rfl (Wk.refl _) (.cons rfl (Wk.refl _) .nil)) (.cons rfl rfl rfl (.cons rfl rfl rfl (.nil _)))) ?_
                refine r_w rfl rfl rfl (s_alloc rfl zv_api_Atom) ?_
                rintro _ _ ⟨b12_28, rfl, rfl⟩
                refine r_w01 rfl rfl rfl (t_store0 _ rfl rfl rfl (Wk.refl _) (pf0 _) (by exact ty_api_Atom) rfl rfl rfl) ?_
                refine r_end ?_
                refine g_freeze 12 b12_28 rfl (pf0 _) ?_
                refine g_seq ?_
                refine g_seq ?_
                refine g_run (by kernel_rfl) [(0, .d), (1, .d), (2, .d), (3, .d)] rfl ?_
                refine r_d rfl rfl rfl (s_load rfl rfl (by exact ty_api_Atom) rfl) ?_
                obtain ⟨r_30, hr_30, hr⟩ := bindS hr
                refine r_d rfl rfl rfl (s_callD rfl cl_term_AtomVars (.cons rfl (Wk.refl _) .nil) (lx_term_AtomVars _ _ hr_30)) ?_
                refine r_d rfl rfl rfl (m_len (f := (D.int .i64)) r_30 rfl el_L_int rfl (asl rfl)) ?_
                refine r_d rfl rfl rfl (s_move rfl rfl) ?_
                refine r_end ?_
                obtain ⟨kk3, hkk3, hr⟩ := exK (fun k => lf_rank_Decreases_L3 k r_1 r_30) hr
                refine g_len 67 rfl (asl rfl) fun hla3 => ?_
                simp only [List.length_map] at hla3
                refine g_blockJ (fun env σ => env = [(0, .lst (ranks_a0.map enc_S_api_Rank)), (3, .ptr (enc_S_api_Rule r_a1)), (5, .map m20_1), (6, .map m20_2), (7, .ref b7_4 0 []), (12, .ptr (.agg [.str q_23.n, .lst (q_23.ts.map encT)])), (38, .lst (r_a1.f4_Body.map encG)), (39, .int .i64 (r_a1.f4_Body.length : Int)), (40, .int .i64 (i_11 : Int))] ∧ σ = [.map m20_1 (mapM' (D.int .i64) D.bool r_1.1), .map m20_2 (mapM' (D.int .i64) D.bool r_1.2), .cell b7_4 (.agg [.int .i64 change_12, .map m23_3]), .map m23_3 (mapM' (D.int .i64) (D.int .i64) mm_13)] ∧ kk3 = some res) ?_ (fun HK3 => ?_)
                ·
                  rintro _ _ ⟨rfl, rfl, hr⟩
                  rw [hkk3] at hr
                  refine g_seq ?_
                  refine g_run (by kernel_rfl) [(0, .d), (1, .d), (2, .w), (3, .d)] rfl ?_
                  refine r_d rfl rfl rfl (s_move rfl rfl) ?_
                  refine r_d rfl rfl rfl (s_load rfl rfl (by exact ty_api_Atom) rfl) ?_
                  obtain ⟨r_32, hr_32, hr⟩ := bindS hr
                  refine r_w rfl rfl rfl (s_call _ rfl cl_Prank_form_add (.cons rfl (Wk.refl _) (.cons rfl (Wk.refl _) (.cons rfl (Wk.refl _) (.cons rfl (Wk.refl _) .nil)))) (by exact ((pf3 _ _ _ _ _).trans (pf3 _ _ _ _ _))) (lg_Prank_form_add_s1 fuel _ _ _ _ _ _ _ _ hr_32)) ?_
                  rintro _ _ ⟨_, ⟨rfl, rfl⟩, rfl⟩
                  refine r_st ((.cell b7_4 (.agg [.int .i64 r_32.2.1, .map m23_3])) :: (.map m23_3 (mapM' (D.int .i64) (D.int .i64) r_32.2.2)) :: _) rfl ?_
                  refine r_d rfl rfl rfl (s_not rfl rfl) ?_
                  refine r_end ?_
                  refine g_sB 87 rfl hr (fun h87_32 hr => ?_) (fun h87_32 hr => ?_)
                  ·
                    refine g_condT rfl ?_
                    refine g_seq ?_
                    refine g_run (by kernel_rfl) [(0, .d)] rfl ?_
                    refine r_d rfl rfl rfl (s_assign rfl rfl) ?_
                    refine r_end ?_
                    obtain rfl := Option.some.inj hr
                    refine g_ret Try.func32 _ (.cons (resTmp rfl (Wk.refl _)) .nil) ?_
                    rfl
                  ·
                    refine g_condF rfl ?_
                    refine g_skip ?_
                    refine g_inBlock ?_
                    refine g_run (by kernel_rfl) [(0, .d), (1, .d)] rfl ?_
                    refine r_d rfl rfl rfl (s_ar (r := ((i_11 + 1 : Nat) : Int)) rfl rfl rfl (by simp [iar]) (by omega)) ?_
                    refine r_d rfl rfl rfl (s_move rfl rfl) ?_
                    refine r_end ?_
                    refine g_sub [(0, .lst (ranks_a0.map enc_S_api_Rank)), (3, .ptr (enc_S_api_Rule r_a1)), (5, .map m20_1), (6, .map m20_2), (7, .ref b7_4 0 []), (38, .lst (r_a1.f4_Body.map encG)), (39, .int .i64 (r_a1.f4_Body.length : Int)), (40, .int .i64 ((i_11 + 1 : Nat) : Int))] (Sub.cons' rfl (Sub.cons' rfl (Sub.cons' rfl (Sub.cons' rfl (Sub.cons' rfl (Sub.cons' rfl (Sub.cons' rfl (Sub.cons' rfl (Sub.nil _))))))))) ?_
                    refine g_perm [_, _, _, _] _ ((((pf1 _ _ _).trans (pf1 _ _ _)).trans (pf3 _ _ _ _ _)).trans (pf3 _ _ _ _ _)) ?_
                    exact IH1 _ _ _ (by omega) ⟨(i_11 + 1), r_32.2.1, r_32.2.2, rfl, rfl, rfl, (by omega), hr⟩
                ·
                  refine g_sub [(0, .lst (ranks_a0.map enc_S_api_Rank)), (3, .ptr (enc_S_api_Rule r_a1)), (5, .map m20_1), (6, .map m20_2), (7, .ref b7_4 0 []), (12, .ptr (.agg [.str q_23.n, .lst (q_23.ts.map encT)])), (38, .lst (r_a1.f4_Body.map encG)), (39, .int .i64 (r_a1.f4_Body.length : Int)), (40, .int .i64 ((i_11 : Nat) : Int)), (67, .lst (r_30.map (D.int .i64))), (68, .int .i64 (r_30.length : Int)), (69, .int .i64 ((0 : Nat) : Int))] (Sub.cons' rfl (Sub.cons' rfl (Sub.cons' rfl (Sub.cons' rfl (Sub.cons' rfl (Sub.cons' rfl (Sub.cons' rfl (Sub.cons' rfl (Sub.cons' rfl (Sub.cons' rfl (Sub.cons' rfl (Sub.cons' rfl (Sub.nil _))))))))))))) ?_
                  refine g_loop (fun n env σ => ∃ (i_31 : Nat), (n = r_30.length - i_31) ∧ (env = [(0, .lst (ranks_a0.map enc_S_api_Rank)), (3, .ptr (enc_S_api_Rule r_a1)), (5, .map m20_1), (6, .map m20_2), (7, .ref b7_4 0 []), (12, .ptr (.agg [.str q_23.n, .lst (q_23.ts.map encT)])), (38, .lst (r_a1.f4_Body.map encG)), (39, .int .i64 (r_a1.f4_Body.length : Int)), (40, .int .i64 (i_11 : Int)), (67, .lst (r_30.map (D.int .i64))), (68, .int .i64 (r_30.length : Int)), (69, .int .i64 (i_31 : Int))]) ∧ (σ = [.map m20_1 (mapM' (D.int .i64) D.bool r_1.1), .map m20_2 (mapM' (D.int .i64) D.bool r_1.2), .cell b7_4 (.agg [.int .i64 change_12, .map m23_3]), .map m23_3 (mapM' (D.int .i64) (D.int .i64) mm_13)]) ∧ (i_31 ≤ r_30.length) ∧ (lf_rank_Decreases_L3 kk3 r_1 (r_30.drop i_31) = some res)) _ ⟨0, rfl, rfl, rfl, Nat.zero_le _, hr⟩ ?_
                  rintro n _ _ ⟨i_31, rfl, rfl, rfl, hi3, hr⟩ IH3
                  rcases listStep r_30 i_31 hi3 with ⟨ht3, hd3, he3⟩ | ⟨q_34, ht3, hd3, hq3, hlt3⟩
                  ·
                    rw [hd3, lf_rank_Decreases_L3] at hr
                    refine g_seq ?_
                    refine g_run (by kernel_rfl) [(0, .d)] rfl ?_
                    refine r_d rfl rfl rfl (s_cmp rfl rfl rfl rfl) ?_
                    refine r_end ?_
                    refine g_seq ?_
                    refine g_known 70 false rfl ht3 ?_
                    refine g_condF rfl ?_
                    refine g_exit rfl ?_
                    refine g_sub [(0, .lst (ranks_a0.map enc_S_api_Rank)), (3, .ptr (enc_S_api_Rule r_a1)), (5, .map m20_1), (6, .map m20_2), (7, .ref b7_4 0 []), (12, .ptr (.agg [.str q_23.n, .lst (q_23.ts.map encT)])), (38, .lst (r_a1.f4_Body.map encG)), (39, .int .i64 (r_a1.f4_Body.length : Int)), (40, .int .i64 (i_11 : Int))] (Sub.cons' rfl (Sub.cons' rfl (Sub.cons' rfl (Sub.cons' rfl (Sub.cons' rfl (Sub.cons' rfl (Sub.cons' rfl (Sub.cons' rfl (Sub.cons' rfl (Sub.nil _)))))))))) ?_
                    exact HK3 _ _ ⟨rfl, rfl, hr⟩
                  ·
                    rw [hd3, lf_rank_Decreases_L3] at hr
                    refine g_seq ?_
                    refine g_run (by kernel_rfl) [(0, .d)] rfl ?_
                    refine r_d rfl rfl rfl (s_cmp rfl rfl rfl rfl) ?_
                    refine r_end ?_
                    refine g_seq ?_
                    refine g_known 70 true rfl ht3 ?_
                    refine g_condT rfl ?_
                    refine g_skip ?_
                    refine g_seq ?_
                    refine g_block ?_
                    refine g_seq ?_
                    refine g_run (by kernel_rfl) [(0, .d), (1, .d), (2, .d)] rfl ?_
                    refine r_d rfl rfl rfl (m_index (f := (D.int .i64)) r_30 rfl el_L_int rfl (asl rfl) rfl hq3 (fun _ => rfl) rfl) ?_
                    refine r_d rfl rfl rfl (s_load rfl rfl (by exact ty_int) rfl) ?_
                    refine r_d rfl rfl rfl (s_assign rfl rfl) ?_
                    refine r_end ?_
                    refine g_seq ?_
                    refine g_run (by kernel_rfl) [(0, .d), (1, .d), (2, .r), (3, .d), (4, .d), (5, .d), (6, .d), (7, .r), (8, .d), (9, .d)] rfl ?_
                    refine r_d rfl rfl rfl (s_move rfl rfl) ?_
                    refine r_d rfl rfl rfl (s_move rfl rfl) ?_
                    refine r_r rfl rfl rfl (m_lookup1 (key := (D.int .i64)) (g := D.bool) r_1.1 q_34 false rfl Try.underlying77 (keyInt Try.underlying3) zm_bool rfl rfl (.head _)) ?_
                    refine r_d rfl rfl rfl (s_not rfl rfl) ?_
                    refine r_d rfl rfl rfl (s_move rfl rfl) ?_
                    refine r_sB 77 rfl hr (fun h77_34 hr => ?_) (fun h77_34 hr => ?_)
                    ·
                      refine r_d rfl rfl rfl (s_move rfl rfl) ?_
                      refine r_d rfl rfl rfl (s_move rfl rfl) ?_
                      refine r_r rfl rfl rfl (m_lookup1 (key := (D.int .i64)) (g := D.bool) r_1.2 q_34 false rfl Try.underlying77 (keyInt Try.underlying3) zm_bool rfl rfl (.tail _ (.head _))) ?_
                      refine r_d rfl rfl rfl (s_not rfl rfl) ?_
                      refine r_d rfl rfl rfl (s_pickT rfl rfl rfl) ?_
                      refine r_end ?_
                      refine g_sB 82 rfl hr (fun h82_35 hr => ?_) (fun h82_35 hr => ?_)
                      ·
                        refine g_condT rfl ?_
                        refine g_seq ?_
                        refine g_run (by kernel_rfl) [(0, .d)] rfl ?_
                        refine r_d rfl rfl rfl (s_assign rfl rfl) ?_
                        refine r_end ?_
                        obtain rfl := Option.some.inj hr
                        refine g_ret Try.func32 _ (.cons (resTmp rfl (Wk.refl _)) .nil) ?_
                        rfl
                      ·
                        refine g_condF rfl ?_
                        refine g_skip ?_
                        refine g_inBlock ?_
                        refine g_run (by kernel_rfl) [(0, .d), (1, .d)] rfl ?_
                        refine r_d rfl rfl rfl (s_ar (r := ((i_31 + 1 : Nat) : Int)) rfl rfl rfl (by simp [iar]) (by omega)) ?_
                        refine r_d rfl rfl rfl (s_move rfl rfl) ?_
                        refine r_end ?_
                        refine g_sub [(0, .lst (ranks_a0.map enc_S_api_Rank)), (3, .ptr (enc_S_api_Rule r_a1)), (5, .map m20_1), (6, .map m20_2), (7, .ref b7_4 0 []), (12, .ptr (.agg [.str q_23.n, .lst (q_23.ts.map encT)])), (38, .lst (r_a1.f4_Body.map encG)), (39, .int .i64 (r_a1.f4_Body.length : Int)), (40, .int .i64 ((i_11 : Nat) : Int)), (67, .lst (r_30.map (D.int .i64))), (68, .int .i64 (r_30.length : Int)), (69, .int .i64 ((i_31 + 1 : Nat) : Int))] (Sub.cons' rfl (Sub.cons' rfl (Sub.cons' rfl (Sub.cons' rfl (Sub.cons' rfl (Sub.cons' rfl (Sub.cons' rfl (Sub.cons' rfl (Sub.cons' rfl (Sub.cons' rfl (Sub.cons' rfl (Sub.cons' rfl (Sub.nil _))))))))))))) ?_
                        exact IH3 _ _ _ (by omega) ⟨(i_31 + 1), rfl, rfl, rfl, (by omega), hr⟩
                    ·
                      refine r_skip rfl rfl rfl ?_
                      refine r_skip rfl rfl rfl ?_
                      refine r_skip rfl rfl rfl ?_
                      refine r_skip rfl rfl rfl ?_
                      refine r_d rfl rfl rfl (s_pickF rfl rfl rfl) ?_
                      refine r_end ?_
                      refine g_condF rfl ?_
                      refine g_skip ?_
                      refine g_inBlock ?_
                      refine g_run (by kernel_rfl) [(0, .d), (1, .d)] rfl ?_
                      refine r_d rfl rfl rfl (s_ar (r := ((i_31 + 1 : Nat) : Int)) rfl rfl rfl (by simp [iar]) (by omega)) ?_
                      refine r_d rfl rfl rfl (s_move rfl rfl) ?_
                      refine r_end ?_
                      refine g_sub [(0, .lst (ranks_a0.map enc_S_api_Rank)), (3, .ptr (enc_S_api_Rule r_a1)), (5, .map m20_1), (6, .map m20_2), (7, .ref b7_4 0 []), (12, .ptr (.agg [.str q_23.n, .lst (q_23.ts.map encT)])), (38, .lst (r_a1.f4_Body.map encG)), (39, .int .i64 (r_a1.f4_Body.length : Int)), (40, .int .i64 ((i_11 : Nat) : Int)), (67, .lst (r_30.map (D.int .i64))), (68, .int .i64 (r_30.length : Int)), (69, .int .i64 ((i_31 + 1 : Nat) : Int))] (Sub.cons' rfl (Sub.cons' rfl (Sub.cons' rfl (Sub.cons' rfl (Sub.cons' rfl (Sub.cons' rfl (Sub.cons' rfl (Sub.cons' rfl (Sub.cons' rfl (Sub.cons' rfl (Sub.cons' rfl (Sub.cons' rfl (Sub.nil _))))))))))))) ?_
                      exact IH3 _ _ _ (by omega) ⟨(i_31 + 1), rfl, rfl, rfl, (by omega), hr⟩
          ·
            refine r_skip rfl rfl rfl ?_
            refine r_skip rfl rfl rfl ?_
            refine r_skip rfl rfl rfl ?_
            refine r_skip rfl rfl rfl ?_
            refine r_d rfl rfl rfl (s_pickF rfl rfl rfl) ?_
            refine r_d rfl rfl rfl (s_assign rfl rfl) ?_
            refine r_end ?_
            refine g_condF rfl ?_
            refine g_seq ?_
            refine g_run (by kernel_rfl) [(0, .d), (1, .d), (2, .d), (3, .d)] rfl ?_
            refine r_d rfl rfl rfl (s_fieldAddr rfl fl_api_Goal_0 rfl rfl rfl rfl) ?_
            refine r_d rfl rfl rfl (s_load rfl rfl (by exact ty_int) rfl) ?_
            refine r_d rfl rfl rfl (s_cmp rfl rfl rfl rfl) ?_
            refine r_d rfl rfl rfl (s_assign rfl rfl) ?_
            refine r_end ?_
            refine g_sB 57 rfl hr (fun h57_36 hr => ?_) (fun h57_36 hr => ?_)
            ·
              refine g_condT rfl ?_
              refine g_exit rfl ?_
              refine g_run (by kernel_rfl) [(0, .d), (1, .d)] rfl ?_
              refine r_d rfl rfl rfl (s_ar (r := ((i_11 + 1 : Nat) : Int)) rfl rfl rfl (by simp [iar]) (by omega)) ?_
              refine r_d rfl rfl rfl (s_move rfl rfl) ?_
              refine r_end ?_
              refine g_sub [(0, .lst (ranks_a0.map enc_S_api_Rank)), (3, .ptr (enc_S_api_Rule r_a1)), (5, .map m20_1), (6, .map m20_2), (7, .ref b7_4 0 []), (38, .lst (r_a1.f4_Body.map encG)), (39, .int .i64 (r_a1.f4_Body.length : Int)), (40, .int .i64 ((i_11 + 1 : Nat) : Int))] (Sub.cons' rfl (Sub.cons' rfl (Sub.cons' rfl (Sub.cons' rfl (Sub.cons' rfl (Sub.cons' rfl (Sub.cons' rfl (Sub.cons' rfl (Sub.nil _))))))))) ?_
              exact IH1 _ _ _ (by omega) ⟨(i_11 + 1), change_12, mm_13, rfl, rfl, rfl, (by omega), hr⟩
            ·
              refine g_condF rfl ?_
              refine g_skip ?_
              refine g_inBlock ?_
              refine g_seq ?_
              refine g_run (by kernel_rfl) [(0, .d), (1, .d), (2, .d), (3, .d), (4, .d), (5, .w), (6, .w)] rfl ?_
              refine r_d rfl rfl rfl (s_fieldAddr rfl fl_api_Goal_1 rfl rfl rfl rfl) ?_
              refine r_d rfl rfl rfl (s_load rfl rfl (by exact ty_string) rfl) ?_
              refine r_d rfl rfl rfl (s_fieldAddr rfl fl_api_Goal_2 rfl rfl rfl rfl) ?_
              refine r_d rfl rfl rfl (s_load rfl rfl (by exact ty_L_api_Term) rfl) ?_
              refine r_d rfl rfl rfl (s_build rfl bt_api_Atom (.cons rfl (Wk.refl _) (.cons rfl (Wk.refl _) .nil)) (.cons rfl rfl rfl (.cons rfl rfl rfl (.nil _)))) ?_
              refine r_w rfl rfl rfl (s_alloc rfl zv_api_Atom) ?_
              rintro _ _ ⟨b12_37, rfl, rfl⟩
              refine r_w01 rfl rfl rfl (t_store0 _ rfl rfl rfl (Wk.refl _) (pf0 _) (by exact ty_api_Atom) rfl rfl rfl) ?_
              refine r_end ?_
              refine g_freeze 12 b12_37 rfl (pf0 _) ?_
              refine g_seq ?_
              refine g_seq ?_
              refine g_run (by kernel_rfl) [(0, .d), (1, .d), (2, .d), (3, .d)] rfl ?_
              refine r_d rfl rfl rfl (s_load rfl rfl (by exact ty_api_Atom) rfl) ?_
              obtain ⟨r_39, hr_39, hr⟩ := bindS hr
              refine r_d rfl rfl rfl (s_callD rfl cl_term_AtomVars (.cons rfl (Wk.refl _) .nil) (lx_term_AtomVars _ _ hr_39)) ?_
              refine r_d rfl rfl rfl (m_len (f := (D.int .i64)) r_39 rfl el_L_int rfl (asl rfl)) ?_
              refine r_d rfl rfl rfl (s_move rfl rfl) ?_
              refine r_end ?_
              obtain ⟨kk4, hkk4, hr⟩ := exK (fun k => lf_rank_Decreases_L4 k r_1 r_39) hr
              refine g_len 67 rfl (asl rfl) fun hla4 => ?_
              simp only [List.length_map] at hla4
              refine g_blockJ (fun env σ => env = [(0, .lst (ranks_a0.map enc_S_api_Rank)), (3, .ptr (enc_S_api_Rule r_a1)), (5, .map m20_1), (6, .map m20_2), (7, .ref b7_4 0 []), (12, .ptr (.agg [.str q_23.n, .lst (q_23.ts.map encT)])), (38, .lst (r_a1.f4_Body.map encG)), (39, .int .i64 (r_a1.f4_Body.length : Int)), (40, .int .i64 (i_11 : Int))] ∧ σ = [.map m20_1 (mapM' (D.int .i64) D.bool r_1.1), .map m20_2 (mapM' (D.int .i64) D.bool r_1.2), .cell b7_4 (.agg [.int .i64 change_12, .map m23_3]), .map m23_3 (mapM' (D.int .i64) (D.int .i64) mm_13)] ∧ kk4 = some res) ?_ (fun HK4 => ?_)
              ·
                rintro _ _ ⟨rfl, rfl, hr⟩
                rw [hkk4] at hr
                refine g_seq ?_
                refine g_run (by kernel_rfl) [(0, .d), (1, .d), (2, .w), (3, .d)] rfl ?_
                refine r_d rfl rfl rfl (s_move rfl rfl) ?_
                refine r_d rfl rfl rfl (s_load rfl rfl (by exact ty_api_Atom) rfl) ?_
                obtain ⟨r_41, hr_41, hr⟩ := bindS hr
                refine r_w rfl rfl rfl (s_call _ rfl cl_Prank_form_add (.cons rfl (Wk.refl _) (.cons rfl (Wk.refl _) (.cons rfl (Wk.refl _) (.cons rfl (Wk.refl _) .nil)))) (by exact ((pf3 _ _ _ _ _).trans (pf3 _ _ _ _ _))) (lg_Prank_form_add_s1 fuel _ _ _ _ _ _ _ _ hr_41)) ?_
                rintro _ _ ⟨_, ⟨rfl, rfl⟩, rfl⟩
                refine r_st ((.cell b7_4 (.agg [.int .i64 r_41.2.1, .map m23_3])) :: (.map m23_3 (mapM' (D.int .i64) (D.int .i64) r_41.2.2)) :: _) rfl ?_
                refine r_d rfl rfl rfl (s_not rfl rfl) ?_
                refine r_end ?_
                refine g_sB 87 rfl hr (fun h87_41 hr => ?_) (fun h87_41 hr => ?_)
                ·
                  refine g_condT rfl ?_
                  refine g_seq ?_
                  refine g_run (by kernel_rfl) [(0, .d)] rfl ?_
                  refine r_d rfl rfl rfl (s_assign rfl rfl) ?_
                  refine r_end ?_
                  obtain rfl := Option.some.inj hr
                  refine g_ret Try.func32 _ (.cons (resTmp rfl (Wk.refl _)) .nil) ?_
                  rfl
                ·
                  refine g_condF rfl ?_
                  refine g_skip ?_
                  refine g_inBlock ?_
                  refine g_run (by kernel_rfl) [(0, .d), (1, .d)] rfl ?_
                  refine r_d rfl rfl rfl (s_ar (r := ((i_11 + 1 : Nat) : Int)) rfl rfl rfl (by simp [iar]) (by omega)) ?_
                  refine r_d rfl rfl rfl (s_move rfl rfl) ?_
                  refine r_end ?_
                  refine g_sub [(0, .lst (ranks_a0.map enc_S_api_Rank)), (3, .ptr (enc_S_api_Rule r_a1)), (5, .map m20_1), (6, .map m20_2), (7, .ref b7_4 0 []), (38, .lst (r_a1.f4_Body.map encG)), (39, .int .i64 (r_a1.f4_Body.length : Int)), (40, .int .i64 ((i_11 + 1 : Nat) : Int))] (Sub.cons' rfl (Sub.cons' rfl (Sub.cons' rfl (Sub.cons' rfl (Sub.cons' rfl (Sub.cons' rfl (Sub.cons' rfl (Sub.cons' rfl (Sub.nil _))))))))) ?_
                  refine g_perm [_, _, _, _] _ ((((pf1 _ _ _).trans (pf1 _ _ _)).trans (pf3 _ _ _ _ _)).trans (pf3 _ _ _ _ _)) ?_
                  exact IH1 _ _ _ (by omega) ⟨(i_11 + 1), r_41.2.1, r_41.2.2, rfl, rfl, rfl, (by omega), hr⟩
              ·
                refine g_sub [(0, .lst (ranks_a0.map enc_S_api_Rank)), (3, .ptr (enc_S_api_Rule r_a1)), (5, .map m20_1), (6, .map m20_2), (7, .ref b7_4 0 []), (12, .ptr (.agg [.str q_23.n, .lst (q_23.ts.map encT)])), (38, .lst (r_a1.f4_Body.map encG)), (39, .int .i64 (r_a1.f4_Body.length : Int)), (40, .int .i64 ((i_11 : Nat) : Int)), (67, .lst (r_39.map (D.int .i64))), (68, .int .i64 (r_39.length : Int)), (69, .int .i64 ((0 : Nat) : Int))] (Sub.cons' rfl (Sub.cons' rfl (Sub.cons' rfl (Sub.cons' rfl (Sub.cons' rfl (Sub.cons' rfl (Sub.cons' rfl (Sub.cons' rfl (Sub.cons' rfl (Sub.cons' rfl (Sub.cons' rfl (Sub.cons' rfl (Sub.nil _))))))))))))) ?_
                refine g_loop (fun n env σ => ∃ (i_40 : Nat), (n = r_39.length - i_40) ∧ (env = [(0, .lst (ranks_a0.map enc_S_api_Rank)), (3, .ptr (enc_S_api_Rule r_a1)), (5, .map m20_1), (6, .map m20_2), (7, .ref b7_4 0 []), (12, .ptr (.agg [.str q_23.n, .lst (q_23.ts.map encT)])), (38, .lst (r_a1.f4_Body.map encG)), (39, .int .i64 (r_a1.f4_Body.length : Int)), (40, .int .i64 (i_11 : Int)), (67, .lst (r_39.map (D.int .i64))), (68, .int .i64 (r_39.length : Int)), (69, .int .i64 (i_40 : Int))]) ∧ (σ = [.map m20_1 (mapM' (D.int .i64) D.bool r_1.1), .map m20_2 (mapM' (D.int .i64) D.bool r_1.2), .cell b7_4 (.agg [.int .i64 change_12, .map m23_3]), .map m23_3 (mapM' (D.int .i64) (D.int .i64) mm_13)]) ∧ (i_40 ≤ r_39.length) ∧ (lf_rank_Decreases_L4 kk4 r_1 (r_39.drop i_40) = some res)) _ ⟨0, rfl, rfl, rfl, Nat.zero_le _, hr⟩ ?_
                rintro n _ _ ⟨i_40, rfl, rfl, rfl, hi4, hr⟩ IH4
                rcases listStep r_39 i_40 hi4 with ⟨ht4, hd4, he4⟩ | ⟨q_43, ht4, hd4, hq4, hlt4⟩
                ·
                  rw [hd4, lf_rank_Decreases_L4] at hr
                  refine g_seq ?_
                  refine g_run (by kernel_rfl) [(0, .d)] rfl ?_
                  refine r_d rfl rfl rfl (s_cmp rfl rfl rfl rfl) ?_
                  refine r_end ?_
                  refine g_seq ?_
                  refine g_known 70 false rfl ht4 ?_
                  refine g_condF rfl ?_
                  refine g_exit rfl ?_
                  refine g_sub [(0, .lst (ranks_a0.map enc_S_api_Rank)), (3, .ptr (enc_S_api_Rule r_a1)), (5, .map m20_1), (6, .map m20_2), (7, .ref b7_4 0 []), (12, .ptr (.agg [.str q_23.n, .lst (q_23.ts.map encT)])), (38, .lst (r_a1.f4_Body.map encG)), (39, .int .i64 (r_a1.f4_Body.length : Int)), (40, .int .i64 (i_11 : Int))] (Sub.cons' rfl (Sub.cons' rfl (Sub.cons' rfl (Sub.cons' rfl (Sub.cons' rfl (Sub.cons' rfl (Sub.cons' rfl (Sub.cons' rfl (Sub.cons' rfl (Sub.nil _)))))))))) ?_
                  exact HK4 _ _ ⟨rfl, rfl, hr⟩
                ·
                  rw [hd4, lf_rank_Decreases_L4] at hr
                  refine g_seq ?_
                  refine g_run (by kernel_rfl) [(0, .d)] rfl ?_
                  refine r_d rfl rfl rfl (s_cmp rfl rfl rfl rfl) ?_
                  refine r_end ?_
                  refine g_seq ?_
                  refine g_known 70 true rfl ht4 ?_
                  refine g_condT rfl ?_
                  refine g_skip ?_
                  refine g_seq ?_
                  refine g_block ?_
                  refine g_seq ?_
                  refine g_run (by kernel_rfl) [(0, .d), (1, .d), (2, .d)] rfl ?_
                  refine r_d rfl rfl rfl (m_index (f := (D.int .i64)) r_39 rfl el_L_int rfl (asl rfl) rfl hq4 (fun _ => rfl) rfl) ?_
                  refine r_d rfl rfl rfl (s_load rfl rfl (by exact ty_int) rfl) ?_
                  refine r_d rfl rfl rfl (s_assign rfl rfl) ?_
                  refine r_end ?_
                  refine g_seq ?_
                  refine g_run (by kernel_rfl) [(0, .d), (1, .d), (2, .r), (3, .d), (4, .d), (5, .d), (6, .d), (7, .r), (8, .d), (9, .d)] rfl ?_
                  refine r_d rfl rfl rfl (s_move rfl rfl) ?_
                  refine r_d rfl rfl rfl (s_move rfl rfl) ?_
                  refine r_r rfl rfl rfl (m_lookup1 (key := (D.int .i64)) (g := D.bool) r_1.1 q_43 false rfl Try.underlying77 (keyInt Try.underlying3) zm_bool rfl rfl (.head _)) ?_
                  refine r_d rfl rfl rfl (s_not rfl rfl) ?_
                  refine r_d rfl rfl rfl (s_move rfl rfl) ?_
                  refine r_sB 77 rfl hr (fun h77_43 hr => ?_) (fun h77_43 hr => ?_)
                  ·
                    refine r_d rfl rfl rfl (s_move rfl rfl) ?_
                    refine r_d rfl rfl rfl (s_move rfl rfl) ?_
                    refine r_r rfl rfl rfl (m_lookup1 (key := (D.int .i64)) (g := D.bool) r_1.2 q_43 false rfl Try.underlying77 (keyInt Try.underlying3) zm_bool rfl rfl (.tail _ (.head _))) ?_
                    refine r_d rfl rfl rfl (s_not rfl rfl) ?_
                    refine r_d rfl rfl rfl (s_pickT rfl rfl rfl) ?_
                    refine r_end ?_
                    refine g_sB 82 rfl hr (fun h82_44 hr => ?_) (fun h82_44 hr => ?_)
                    ·
                      refine g_condT rfl ?_
                      refine g_seq ?_
                      refine g_run (by kernel_rfl) [(0, .d)] rfl ?_
                      refine r_d rfl rfl rfl (s_assign rfl rfl) ?_
                      refine r_end ?_
                      obtain rfl := Option.some.inj hr
                      refine g_ret Try.func32 _ (.cons (resTmp rfl (Wk.refl _)) .nil) ?_
                      rfl
                    ·
                      refine g_condF rfl ?_
                      refine g_skip ?_
                      refine g_inBlock ?_
                      refine g_run (by kernel_rfl) [(0, .d), (1, .d)] rfl ?_
                      refine r_d rfl rfl rfl (s_ar (r := ((i_40 + 1 : Nat) : Int)) rfl rfl rfl (by simp [iar]) (by omega)) ?_
                      refine r_d rfl rfl rfl (s_move rfl rfl) ?_
                      refine r_end ?_
                      refine g_sub [(0, .lst (ranks_a0.map enc_S_api_Rank)), (3, .ptr (enc_S_api_Rule r_a1)), (5, .map m20_1), (6, .map m20_2), (7, .ref b7_4 0 []), (12, .ptr (.agg [.str q_23.n, .lst (q_23.ts.map encT)])), (38, .lst (r_a1.f4_Body.map encG)), (39, .int .i64 (r_a1.f4_Body.length : Int)), (40, .int .i64 ((i_11 : Nat) : Int)), (67, .lst (r_39.map (D.int .i64))), (68, .int .i64 (r_39.length : Int)), (69, .int .i64 ((i_40 + 1 : Nat) : Int))] (Sub.cons' rfl (Sub.cons' rfl (Sub.cons' rfl (Sub.cons' rfl (Sub.cons' rfl (Sub.cons' rfl (Sub.cons' rfl (Sub.cons' rfl (Sub.cons' rfl (Sub.cons' rfl (Sub.cons' rfl (Sub.cons' rfl (Sub.nil _))))))))))))) ?_
                      exact IH4 _ _ _ (by omega) ⟨(i_40 + 1), rfl, rfl, rfl, (by omega), hr⟩
                  ·
                    refine r_skip rfl rfl rfl ?_
                    refine r_skip rfl rfl rfl ?_
                    refine r_skip rfl rfl rfl ?_
                    refine r_skip rfl rfl rfl ?_
                    refine r_d rfl rfl rfl (s_pickF rfl rfl rfl) ?_
                    refine r_end ?_
                    refine g_condF rfl ?_
                    refine g_skip ?_
                    refine g_inBlock ?_
                    refine g_run (by kernel_rfl) [(0, .d), (1, .d)] rfl ?_
                    refine r_d rfl rfl rfl (s_ar (r := ((i_40 + 1 : Nat) : Int)) rfl rfl rfl (by simp [iar]) (by omega)) ?_
                    refine r_d rfl rfl rfl (s_move rfl rfl) ?_
                    refine r_end ?_
                    refine g_sub [(0, .lst (ranks_a0.map enc_S_api_Rank)), (3, .ptr (enc_S_api_Rule r_a1)), (5, .map m20_1), (6, .map m20_2), (7, .ref b7_4 0 []), (12, .ptr (.agg [.str q_23.n, .lst (q_23.ts.map encT)])), (38, .lst (r_a1.f4_Body.map encG)), (39, .int .i64 (r_a1.f4_Body.length : Int)), (40, .int .i64 ((i_11 : Nat) : Int)), (67, .lst (r_39.map (D.int .i64))), (68, .int .i64 (r_39.length : Int)), (69, .int .i64 ((i_40 + 1 : Nat) : Int))] (Sub.cons' rfl (Sub.cons' rfl (Sub.cons' rfl (Sub.cons' rfl (Sub.cons' rfl (Sub.cons' rfl (Sub.cons' rfl (Sub.cons' rfl (Sub.cons' rfl (Sub.cons' rfl (Sub.cons' rfl (Sub.cons' rfl (Sub.nil _))))))))))))) ?_
                    exact IH4 _ _ _ (by omega) ⟨(i_40 + 1), rfl, rfl, rfl, (by omega), hr⟩
  ·
    refine g_sub [(0, .lst (ranks_a0.map enc_S_api_Rank)), (3, .ptr (enc_S_api_Rule r_a1)), (5, .map m20_1), (6, .map m20_2), (7, .ref b7_4 0 []), (26, .lst (r_a1.f2_Remove.map encA)), (27, .int .i64 (r_a1.f2_Remove.length : Int)), (28, .int .i64 ((0 : Nat) : Int))] (Sub.cons' rfl (Sub.cons' rfl (Sub.cons' rfl (Sub.cons' rfl (Sub.cons' rfl (Sub.cons' rfl (Sub.cons' rfl (Sub.cons' rfl (Sub.nil _))))))))) ?_
    refine g_perm [_, _, _, _] _ ((((pf1 _ _ _).trans (pf1 _ _ _)).trans (pf3 _ _ _ _ _)).trans (pf3 _ _ _ _ _)) ?_
    refine g_loop (fun n env σ => ∃ (i_6 : Nat) (change_7 : Int) (mm_8 : (List (Int × Int))), (n = r_a1.f2_Remove.length - i_6) ∧ (env = [(0, .lst (ranks_a0.map enc_S_api_Rank)), (3, .ptr (enc_S_api_Rule r_a1)), (5, .map m20_1), (6, .map m20_2), (7, .ref b7_4 0 []), (26, .lst (r_a1.f2_Remove.map encA)), (27, .int .i64 (r_a1.f2_Remove.length : Int)), (28, .int .i64 (i_6 : Int))]) ∧ (σ = [.map m20_1 (mapM' (D.int .i64) D.bool r_1.1), .map m20_2 (mapM' (D.int .i64) D.bool r_1.2), .cell b7_4 (.agg [.int .i64 change_7, .map m23_3]), .map m23_3 (mapM' (D.int .i64) (D.int .i64) mm_8)]) ∧ (i_6 ≤ r_a1.f2_Remove.length) ∧ (lf_rank_Decreases_L0 kk0 fuel ranks_a0 (r_a1.f2_Remove.drop i_6) change_7 mm_8 = some res)) _ ⟨0, 0, [], rfl, rfl, rfl, Nat.zero_le _, hr⟩ ?_
    rintro n _ _ ⟨i_6, change_7, mm_8, rfl, rfl, rfl, hi0, hr⟩ IH0
    rcases listStep r_a1.f2_Remove i_6 hi0 with ⟨ht0, hd0, he0⟩ | ⟨q_46, ht0, hd0, hq0, hlt0⟩
    ·
      rw [hd0, lf_rank_Decreases_L0] at hr
      refine g_seq ?_
      refine g_run (by kernel_rfl) [(0, .d)] rfl ?_
      refine r_d rfl rfl rfl (s_cmp rfl rfl rfl rfl) ?_
      refine r_end ?_
      refine g_seq ?_
      refine g_known 29 false rfl ht0 ?_
      refine g_condF rfl ?_
      refine g_exit rfl ?_
      refine g_sub [(0, .lst (ranks_a0.map enc_S_api_Rank)), (3, .ptr (enc_S_api_Rule r_a1)), (5, .map m20_1), (6, .map m20_2), (7, .ref b7_4 0 [])] (Sub.cons' rfl (Sub.cons' rfl (Sub.cons' rfl (Sub.cons' rfl (Sub.cons' rfl (Sub.nil _)))))) ?_
      exact HK0 _ _ ⟨change_7, mm_8, rfl, rfl, hr⟩
    ·
      rw [hd0, lf_rank_Decreases_L0] at hr
      refine g_seq ?_
      refine g_run (by kernel_rfl) [(0, .d)] rfl ?_
      refine r_d rfl rfl rfl (s_cmp rfl rfl rfl rfl) ?_
      refine r_end ?_
      refine g_seq ?_
      refine g_known 29 true rfl ht0 ?_
      refine g_condT rfl ?_
      refine g_skip ?_
      refine g_seq ?_
      refine g_block ?_
      refine g_seq ?_
      refine g_run (by kernel_rfl) [(0, .d), (1, .d), (2, .w), (3, .w)] rfl ?_
      refine r_d rfl rfl rfl (m_index (f := encA) r_a1.f2_Remove rfl el_L_api_Atom rfl (asl rfl) rfl hq0 sz_encA rfl) ?_
      refine r_d rfl rfl rfl (s_load rfl rfl (by exact ty_api_Atom) (sz_encA _)) ?_
      refine r_w rfl rfl rfl (s_alloc rfl zv_api_Atom) ?_
      rintro _ _ ⟨b9_46, rfl, rfl⟩
      refine r_w01 rfl rfl rfl (t_store0 _ rfl rfl rfl (Wk.refl _) (pf0 _) (by exact ty_api_Atom) (sz_encA _) rfl rfl) ?_
      refine r_end ?_
      refine g_freeze 9 b9_46 rfl (pf0 _) ?_
      refine g_seq ?_
      refine g_run (by kernel_rfl) [(0, .d), (1, .d), (2, .w), (3, .d)] rfl ?_
      refine r_d rfl rfl rfl (s_move rfl rfl) ?_
      refine r_d rfl rfl rfl (s_load rfl rfl (by exact ty_api_Atom) (sz_encA _)) ?_
      obtain ⟨r_48, hr_48, hr⟩ := bindS hr
      refine r_w rfl rfl rfl (s_call _ rfl cl_Prank_form_add (.cons rfl (Wk.refl _) (.cons rfl (Wk.refl _) (.cons rfl (Wk.refl _) (.cons rfl (Wk.refl _) .nil)))) (by exact ((pf3 _ _ _ _ _).trans (pf3 _ _ _ _ _))) (lg_Prank_form_add_s1 fuel _ _ _ _ _ _ _ _ hr_48)) ?_
      rintro _ _ ⟨_, ⟨rfl, rfl⟩, rfl⟩
      refine r_st ((.cell b7_4 (.agg [.int .i64 r_48.2.1, .map m23_3])) :: (.map m23_3 (mapM' (D.int .i64) (D.int .i64) r_48.2.2)) :: _) rfl ?_
      refine r_d rfl rfl rfl (s_not rfl rfl) ?_
      refine r_end ?_
      refine g_sB 35 rfl hr (fun h35_48 hr => ?_) (fun h35_48 hr => ?_)
      ·
        refine g_condT rfl ?_
        refine g_seq ?_
        refine g_run (by kernel_rfl) [(0, .d)] rfl ?_
        refine r_d rfl rfl rfl (s_assign rfl rfl) ?_
        refine r_end ?_
        obtain rfl := Option.some.inj hr
        refine g_ret Try.func32 _ (.cons (resTmp rfl (Wk.refl _)) .nil) ?_
        rfl
      ·
        refine g_condF rfl ?_
        refine g_skip ?_
        refine g_inBlock ?_
        refine g_run (by kernel_rfl) [(0, .d), (1, .d)] rfl ?_
        refine r_d rfl rfl rfl (s_ar (r := ((i_6 + 1 : Nat) : Int)) rfl rfl rfl (by simp [iar]) (by omega)) ?_
        refine r_d rfl rfl rfl (s_move rfl rfl) ?_
        refine r_end ?_
        refine g_sub [(0, .lst (ranks_a0.map enc_S_api_Rank)), (3, .ptr (enc_S_api_Rule r_a1)), (5, .map m20_1), (6, .map m20_2), (7, .ref b7_4 0 []), (26, .lst (r_a1.f2_Remove.map encA)), (27, .int .i64 (r_a1.f2_Remove.length : Int)), (28, .int .i64 ((i_6 + 1 : Nat) : Int))] (Sub.cons' rfl (Sub.cons' rfl (Sub.cons' rfl (Sub.cons' rfl (Sub.cons' rfl (Sub.cons' rfl (Sub.cons' rfl (Sub.cons' rfl (Sub.nil _))))))))) ?_
        refine g_perm [_, _, _, _] _ ((((pf1 _ _ _).trans (pf1 _ _ _)).trans (pf3 _ _ _ _ _)).trans (pf3 _ _ _ _ _)) ?_
        exact IH0 _ _ _ (by omega) ⟨(i_6 + 1), r_48.2.1, r_48.2.2, rfl, rfl, rfl, (by omega), hr⟩

noncomputable def lf_rank_Check_L1 (k : Option (Int)) (fuel : Nat) (ranks_a1 : (List S_api_Rank)) : List S_api_Rule → Option (Int)
  | [] =>
  k
  | q_5 :: rest =>
  ((lf_rank_Decreases fuel ranks_a1 q_5).bind fun r_7 =>
  (bif (!r_7) then
  some (19)
  else
  (lf_rank_Check_L1 k fuel ranks_a1 rest)))

noncomputable def lf_rank_Check_L0 (k : Option (Int)) (ranks_a1 : (List S_api_Rank)) : List S_api_Decl → Option (Int)
  | [] =>
  k
  | q_9 :: rest =>
  ((lf_rank_find ranks_a1 q_9.f0_Name q_9.f1_Arity).bind fun r_11 =>
  (bif (!r_11.2) then
  some (13)
  else
  (lf_rank_Check_L0 k ranks_a1 rest)))
noncomputable def lf_rank_Check (fuel : Nat) (p_a0 : S_api_Program) (ranks_a1 : (List S_api_Rank)) : Option (Int) :=
  ((lf_rank_valid ranks_a1).bind fun r_1 =>
  (bif (!r_1) then
  some (2)
  else
  (lf_rank_Check_L0 ((lf_rank_Check_L1 (some (0)) fuel ranks_a1 p_a0.f1_Rules)) ranks_a1 p_a0.f0_Decls)))

set_option maxHeartbeats 1000000 in
theorem lg_rank_Check (fuel : Nat) (p_a0 : S_api_Program) (ranks_a1 : (List S_api_Rank)) (res : Int) (hr : lf_rank_Check fuel p_a0 ranks_a1 = some res) : Gives Try.prog 18 [enc_S_api_Program p_a0, .lst (ranks_a1.map enc_S_api_Rank)] (.int .i64 res) := by
  unfold lf_rank_Check at hr
  refine spec_env [(0, enc_S_api_Program p_a0), (1, .lst (ranks_a1.map enc_S_api_Rank))] Try.func18 rfl rfl fun K hK => ?_
  refine g_seq ?_
  refine g_run (by kernel_rfl) [(0, .d), (1, .d)] rfl ?_
  refine r_d rfl rfl rfl (s_box rfl rfl rfl) ?_
  refine r_d rfl rfl rfl (s_assign rfl rfl) ?_
  refine r_end ?_
  refine g_seq ?_
  refine g_seq ?_
  refine g_run (by kernel_rfl) [(0, .d), (1, .d), (2, .d)] rfl ?_
  refine r_d rfl rfl rfl (s_move rfl rfl) ?_
  obtain ⟨r_1, hr_1, hr⟩ := bindS hr
  refine r_d rfl rfl rfl (s_callD rfl cl_rank_valid (.cons rfl (Wk.refl _) .nil) (lg_rank_valid _ _ hr_1)) ?_
  refine r_d rfl rfl rfl (s_not rfl rfl) ?_
  refine r_end ?_
  refine g_sB 13 rfl hr (fun h13_1 hr => ?_) (fun h13_1 hr => ?_)
  ·
    refine g_condT rfl ?_
    refine g_seq ?_
    refine g_run (by kernel_rfl) [(0, .d)] rfl ?_
    refine r_d rfl rfl rfl (s_assign rfl rfl) ?_
    refine r_end ?_
    obtain rfl := Option.some.inj hr
    refine g_ret Try.func18 _ (.cons (resTmp rfl (Wk.refl _)) .nil) ?_
    rfl
  ·
    refine g_condF rfl ?_
    refine g_skip ?_
    refine g_seq ?_
    refine g_seq ?_
    refine g_run (by kernel_rfl) [(0, .d), (1, .d), (2, .d), (3, .d)] rfl ?_
    refine r_d rfl rfl rfl (s_fieldAddr rfl fl_api_Program_0 rfl rfl rfl rfl) ?_
    refine r_d rfl rfl rfl (s_load rfl rfl (by exact ty_L_api_Decl) rfl) ?_
    refine r_d rfl rfl rfl (m_len (f := enc_S_api_Decl) p_a0.f0_Decls rfl el_L_api_Decl rfl (asl rfl)) ?_
    refine r_d rfl rfl rfl (s_move rfl rfl) ?_
    refine r_end ?_
    obtain ⟨kk0, hkk0, hr⟩ := exK (fun k => lf_rank_Check_L0 k ranks_a1 p_a0.f0_Decls) hr
    refine g_len 15 rfl (asl rfl) fun hla0 => ?_
    simp only [List.length_map] at hla0
    refine g_blockJ (fun env σ => env = [(1, .lst (ranks_a1.map enc_S_api_Rank)), (2, .ptr (enc_S_api_Program p_a0))] ∧ σ = [] ∧ kk0 = some res) ?_ (fun HK0 => ?_)
    ·
      rintro _ _ ⟨rfl, rfl, hr⟩
      rw [hkk0] at hr
      refine g_seq ?_
      refine g_seq ?_
      refine g_run (by kernel_rfl) [(0, .d), (1, .d), (2, .d), (3, .d)] rfl ?_
      refine r_d rfl rfl rfl (s_fieldAddr rfl fl_api_Program_1 rfl rfl rfl rfl) ?_
      refine r_d rfl rfl rfl (s_load rfl rfl (by exact ty_L_api_Rule) rfl) ?_
      refine r_d rfl rfl rfl (m_len (f := enc_S_api_Rule) p_a0.f1_Rules rfl el_L_api_Rule rfl (asl rfl)) ?_
      refine r_d rfl rfl rfl (s_move rfl rfl) ?_
      refine r_end ?_
      obtain ⟨kk1, hkk1, hr⟩ := exK (fun k => lf_rank_Check_L1 k fuel ranks_a1 p_a0.f1_Rules) hr
      refine g_len 34 rfl (asl rfl) fun hla1 => ?_
      simp only [List.length_map] at hla1
      refine g_blockJ (fun env σ => env = [] ∧ σ = [] ∧ kk1 = some res) ?_ (fun HK1 => ?_)
      ·
        rintro _ _ ⟨rfl, rfl, hr⟩
        rw [hkk1] at hr
        refine g_seq ?_
        refine g_run (by kernel_rfl) [(0, .d)] rfl ?_
        refine r_d rfl rfl rfl (s_assign rfl rfl) ?_
        refine r_end ?_
        obtain rfl := Option.some.inj hr
        refine g_ret Try.func18 _ (.cons (resTmp rfl (Wk.refl _)) .nil) ?_
        rfl
      ·
        refine g_sub [(1, .lst (ranks_a1.map enc_S_api_Rank)), (34, .lst (p_a0.f1_Rules.map enc_S_api_Rule)), (35, .int .i64 (p_a0.f1_Rules.length : Int)), (36, .int .i64 ((0 : Nat) : Int))] (Sub.cons' rfl (Sub.cons' rfl (Sub.cons' rfl (Sub.cons' rfl (Sub.nil _))))) ?_
        refine g_loop (fun n env σ => ∃ (i_4 : Nat), (n = p_a0.f1_Rules.length - i_4) ∧ (env = [(1, .lst (ranks_a1.map enc_S_api_Rank)), (34, .lst (p_a0.f1_Rules.map enc_S_api_Rule)), (35, .int .i64 (p_a0.f1_Rules.length : Int)), (36, .int .i64 (i_4 : Int))]) ∧ (σ = []) ∧ (i_4 ≤ p_a0.f1_Rules.length) ∧ (lf_rank_Check_L1 kk1 fuel ranks_a1 (p_a0.f1_Rules.drop i_4) = some res)) _ ⟨0, rfl, rfl, rfl, Nat.zero_le _, hr⟩ ?_
        rintro n _ _ ⟨i_4, rfl, rfl, rfl, hi1, hr⟩ IH1
        rcases listStep p_a0.f1_Rules i_4 hi1 with ⟨ht1, hd1, he1⟩ | ⟨q_5, ht1, hd1, hq1, hlt1⟩
        ·
          rw [hd1, lf_rank_Check_L1] at hr
          refine g_seq ?_
          refine g_run (by kernel_rfl) [(0, .d)] rfl ?_
          refine r_d rfl rfl rfl (s_cmp rfl rfl rfl rfl) ?_
          refine r_end ?_
          refine g_seq ?_
          refine g_known 37 false rfl ht1 ?_
          refine g_condF rfl ?_
          refine g_exit rfl ?_
          refine g_sub [] (Sub.nil _) ?_
          exact HK1 _ _ ⟨rfl, rfl, hr⟩
        ·
          rw [hd1, lf_rank_Check_L1] at hr
          refine g_seq ?_
          refine g_run (by kernel_rfl) [(0, .d)] rfl ?_
          refine r_d rfl rfl rfl (s_cmp rfl rfl rfl rfl) ?_
          refine r_end ?_
          refine g_seq ?_
          refine g_known 37 true rfl ht1 ?_
          refine g_condT rfl ?_
          refine g_skip ?_
          refine g_seq ?_
          refine g_block ?_
          refine g_seq ?_
          refine g_run (by kernel_rfl) [(0, .d), (1, .d), (2, .w), (3, .w)] rfl ?_
          refine r_d rfl rfl rfl (m_index (f := enc_S_api_Rule) p_a0.f1_Rules rfl el_L_api_Rule rfl (asl rfl) rfl hq1 sz_S_api_Rule rfl) ?_
          refine r_d rfl rfl rfl (s_load rfl rfl (by exact ty_api_Rule) (sz_S_api_Rule _)) ?_
          refine r_w rfl rfl rfl (s_alloc rfl zv_api_Rule) ?_
          rintro _ _ ⟨b10_5, rfl, rfl⟩
          refine r_w01 rfl rfl rfl (t_store0 _ rfl rfl rfl (Wk.refl _) (pf0 _) (by exact ty_api_Rule) (sz_S_api_Rule _) rfl rfl) ?_
          refine r_end ?_
          refine g_freeze 10 b10_5 rfl (pf0 _) ?_
          refine g_seq ?_
          refine g_run (by kernel_rfl) [(0, .d), (1, .d), (2, .d), (3, .d)] rfl ?_
          refine r_d rfl rfl rfl (s_move rfl rfl) ?_
          refine r_d rfl rfl rfl (s_load rfl rfl (by exact ty_api_Rule) (sz_S_api_Rule _)) ?_
          obtain ⟨r_7, hr_7, hr⟩ := bindS hr
          refine r_d rfl rfl rfl (s_callD rfl cl_rank_Decreases (.cons rfl (Wk.refl _) (.cons rfl (Wk.refl _) .nil)) (lg_rank_Decreases fuel _ _ _ hr_7)) ?_
          refine r_d rfl rfl rfl (s_not rfl rfl) ?_
          refine r_end ?_
          refine g_sB 43 rfl hr (fun h43_7 hr => ?_) (fun h43_7 hr => ?_)
          ·
            refine g_condT rfl ?_
            refine g_seq ?_
            refine g_run (by kernel_rfl) [(0, .d)] rfl ?_
            refine r_d rfl rfl rfl (s_assign rfl rfl) ?_
            refine r_end ?_
            obtain rfl := Option.some.inj hr
            refine g_ret Try.func18 _ (.cons (resTmp rfl (Wk.refl _)) .nil) ?_
            rfl
          ·
            refine g_condF rfl ?_
            refine g_skip ?_
            refine g_inBlock ?_
            refine g_run (by kernel_rfl) [(0, .d), (1, .d)] rfl ?_
            refine r_d rfl rfl rfl (s_ar (r := ((i_4 + 1 : Nat) : Int)) rfl rfl rfl (by simp [iar]) (by omega)) ?_
            refine r_d rfl rfl rfl (s_move rfl rfl) ?_
            refine r_end ?_
            refine g_sub [(1, .lst (ranks_a1.map enc_S_api_Rank)), (34, .lst (p_a0.f1_Rules.map enc_S_api_Rule)), (35, .int .i64 (p_a0.f1_Rules.length : Int)), (36, .int .i64 ((i_4 + 1 : Nat) : Int))] (Sub.cons' rfl (Sub.cons' rfl (Sub.cons' rfl (Sub.cons' rfl (Sub.nil _))))) ?_
            exact IH1 _ _ _ (by omega) ⟨(i_4 + 1), rfl, rfl, rfl, (by omega), hr⟩
    ·
      refine g_sub [(1, .lst (ranks_a1.map enc_S_api_Rank)), (2, .ptr (enc_S_api_Program p_a0)), (15, .lst (p_a0.f0_Decls.map enc_S_api_Decl)), (16, .int .i64 (p_a0.f0_Decls.length : Int)), (17, .int .i64 ((0 : Nat) : Int))] (Sub.cons' rfl (Sub.cons' rfl (Sub.cons' rfl (Sub.cons' rfl (Sub.cons' rfl (Sub.nil _)))))) ?_
      refine g_loop (fun n env σ => ∃ (i_3 : Nat), (n = p_a0.f0_Decls.length - i_3) ∧ (env = [(1, .lst (ranks_a1.map enc_S_api_Rank)), (2, .ptr (enc_S_api_Program p_a0)), (15, .lst (p_a0.f0_Decls.map enc_S_api_Decl)), (16, .int .i64 (p_a0.f0_Decls.length : Int)), (17, .int .i64 (i_3 : Int))]) ∧ (σ = []) ∧ (i_3 ≤ p_a0.f0_Decls.length) ∧ (lf_rank_Check_L0 kk0 ranks_a1 (p_a0.f0_Decls.drop i_3) = some res)) _ ⟨0, rfl, rfl, rfl, Nat.zero_le _, hr⟩ ?_
      rintro n _ _ ⟨i_3, rfl, rfl, rfl, hi0, hr⟩ IH0
      rcases listStep p_a0.f0_Decls i_3 hi0 with ⟨ht0, hd0, he0⟩ | ⟨q_9, ht0, hd0, hq0, hlt0⟩
      ·
        rw [hd0, lf_rank_Check_L0] at hr
        refine g_seq ?_
        refine g_run (by kernel_rfl) [(0, .d)] rfl ?_
        refine r_d rfl rfl rfl (s_cmp rfl rfl rfl rfl) ?_
        refine r_end ?_
        refine g_seq ?_
        refine g_known 18 false rfl ht0 ?_
        refine g_condF rfl ?_
        refine g_exit rfl ?_
        refine g_sub [(1, .lst (ranks_a1.map enc_S_api_Rank)), (2, .ptr (enc_S_api_Program p_a0))] (Sub.cons' rfl (Sub.cons' rfl (Sub.nil _))) ?_
        exact HK0 _ _ ⟨rfl, rfl, hr⟩
      ·
        rw [hd0, lf_rank_Check_L0] at hr
        refine g_seq ?_
        refine g_run (by kernel_rfl) [(0, .d)] rfl ?_
        refine r_d rfl rfl rfl (s_cmp rfl rfl rfl rfl) ?_
        refine r_end ?_
        refine g_seq ?_
        refine g_known 18 true rfl ht0 ?_
        refine g_condT rfl ?_
        refine g_skip ?_
        refine g_seq ?_
        refine g_block ?_
        refine g_seq ?_
        refine g_run (by kernel_rfl) [(0, .d), (1, .d), (2, .w), (3, .w)] rfl ?_
        refine r_d rfl rfl rfl (m_index (f := enc_S_api_Decl) p_a0.f0_Decls rfl el_L_api_Decl rfl (asl rfl) rfl hq0 sz_S_api_Decl rfl) ?_
        refine r_d rfl rfl rfl (s_load rfl rfl (by exact ty_api_Decl) (sz_S_api_Decl _)) ?_
        refine r_w rfl rfl rfl (s_alloc rfl zv_api_Decl) ?_
        rintro _ _ ⟨b6_9, rfl, rfl⟩
        refine r_w01 rfl rfl rfl (t_store0 _ rfl rfl rfl (Wk.refl _) (pf0 _) (by exact ty_api_Decl) (sz_S_api_Decl _) rfl rfl) ?_
        refine r_end ?_
        refine g_freeze 6 b6_9 rfl (pf0 _) ?_
        refine g_seq ?_
        refine g_run (by kernel_rfl) [(0, .d), (1, .d), (2, .d), (3, .d), (4, .d), (5, .d), (6, .d), (7, .d), (8, .d), (9, .w), (10, .w), (11, .d)] rfl ?_
        refine r_d rfl rfl rfl (s_move rfl rfl) ?_
        refine r_d rfl rfl rfl (s_fieldAddr rfl fl_api_Decl_0 rfl rfl rfl rfl) ?_
        refine r_d rfl rfl rfl (s_load rfl rfl (by exact ty_string) rfl) ?_
        refine r_d rfl rfl rfl (s_fieldAddr rfl fl_api_Decl_1 rfl rfl rfl rfl) ?_
        refine r_d rfl rfl rfl (s_load rfl rfl (by exact ty_int) rfl) ?_
        obtain ⟨r_11, hr_11, hr⟩ := bindS hr
        refine r_d rfl rfl rfl (s_callD rfl cl_rank_find (.cons rfl (Wk.refl _) (.cons rfl (Wk.refl _) (.cons rfl (Wk.refl _) .nil))) (lg_rank_find _ _ _ _ hr_11)) ?_
        refine r_d rfl rfl rfl (s_move rfl rfl) ?_
        refine r_d rfl rfl rfl (s_extract rfl rfl rfl) ?_
        refine r_d rfl rfl rfl (s_extract rfl rfl rfl) ?_
        refine r_w rfl rfl rfl (s_alloc rfl zv_api_Rank) ?_
        rintro _ _ ⟨b7_11, rfl, rfl⟩
        refine r_w01 rfl rfl rfl (t_store0 _ rfl rfl rfl (Wk.refl _) (pf0 _) (by exact ty_api_Rank) (sz_S_api_Rank _) rfl rfl) ?_
        refine r_d rfl rfl rfl (s_assign rfl rfl) ?_
        refine r_end ?_
        refine g_freeze 7 b7_11 rfl (pf0 _) ?_
        refine g_seq ?_
        refine g_run (by kernel_rfl) [(0, .d), (1, .d)] rfl ?_
        refine r_d rfl rfl rfl (s_move rfl rfl) ?_
        refine r_d rfl rfl rfl (s_not rfl rfl) ?_
        refine r_end ?_
        refine g_sB 31 rfl hr (fun h31_12 hr => ?_) (fun h31_12 hr => ?_)
        ·
          refine g_condT rfl ?_
          refine g_seq ?_
          refine g_run (by kernel_rfl) [(0, .d)] rfl ?_
          refine r_d rfl rfl rfl (s_assign rfl rfl) ?_
          refine r_end ?_
          obtain rfl := Option.some.inj hr
          refine g_ret Try.func18 _ (.cons (resTmp rfl (Wk.refl _)) .nil) ?_
          rfl
        ·
          refine g_condF rfl ?_
          refine g_skip ?_
          refine g_inBlock ?_
          refine g_run (by kernel_rfl) [(0, .d), (1, .d)] rfl ?_
          refine r_d rfl rfl rfl (s_ar (r := ((i_3 + 1 : Nat) : Int)) rfl rfl rfl (by simp [iar]) (by omega)) ?_
          refine r_d rfl rfl rfl (s_move rfl rfl) ?_
          refine r_end ?_
          refine g_sub [(1, .lst (ranks_a1.map enc_S_api_Rank)), (2, .ptr (enc_S_api_Program p_a0)), (15, .lst (p_a0.f0_Decls.map enc_S_api_Decl)), (16, .int .i64 (p_a0.f0_Decls.length : Int)), (17, .int .i64 ((i_3 + 1 : Nat) : Int))] (Sub.cons' rfl (Sub.cons' rfl (Sub.cons' rfl (Sub.cons' rfl (Sub.cons' rfl (Sub.nil _)))))) ?_
          exact IH0 _ _ _ (by omega) ⟨(i_3 + 1), rfl, rfl, rfl, (by omega), hr⟩

noncomputable def lf_constraintref41_find_L0 (k : Option (S_api_Rank × Bool)) (arity_a2 : Int) (name_a1 : ByteArray) : List S_api_Rank → Option (S_api_Rank × Bool)
  | [] =>
  k
  | q_3 :: rest =>
  (bif (q_3.f0_Name.toList == name_a1.toList) then
  (bif ((q_3.f2_Factors.length : Int) == arity_a2) then
  some (q_3, true)
  else
  (lf_constraintref41_find_L0 k arity_a2 name_a1 rest))
  else
  (lf_constraintref41_find_L0 k arity_a2 name_a1 rest))
noncomputable def lf_constraintref41_find (ranks_a0 : (List S_api_Rank)) (name_a1 : ByteArray) (arity_a2 : Int) : Option (S_api_Rank × Bool) :=
  (lf_constraintref41_find_L0 (some ((⟨⟨#[]⟩, 0, []⟩ : S_api_Rank), false)) arity_a2 name_a1 ranks_a0)

set_option maxHeartbeats 1000000 in
theorem lg_constraintref41_find (ranks_a0 : (List S_api_Rank)) (name_a1 : ByteArray) (arity_a2 : Int) (res : S_api_Rank × Bool) (hr : lf_constraintref41_find ranks_a0 name_a1 arity_a2 = some res) : Gives Try.prog 36 [.lst (ranks_a0.map enc_S_api_Rank), .str name_a1, .int .i64 arity_a2] (.tup [enc_S_api_Rank res.1, .bool res.2]) := by
  unfold lf_constraintref41_find at hr
  refine spec_env [(0, .lst (ranks_a0.map enc_S_api_Rank)), (1, .str name_a1), (2, .int .i64 arity_a2)] Try.func36 rfl rfl fun K hK => ?_
  refine g_seq ?_
  refine g_run (by kernel_rfl) [(0, .w), (1, .d)] rfl ?_
  refine r_w rfl rfl rfl (s_alloc rfl zv_api_Rank) ?_
  rintro _ _ ⟨b6_0, rfl, rfl⟩
  refine r_d rfl rfl rfl (s_assign rfl rfl) ?_
  refine r_end ?_
  refine g_seq ?_
  refine g_seq ?_
  refine g_run (by kernel_rfl) [(0, .d)] rfl ?_
  refine r_d rfl rfl rfl (s_assign rfl rfl) ?_
  refine r_end ?_
  obtain ⟨kk0, hkk0, hr⟩ := exK (fun k => lf_constraintref41_find_L0 k arity_a2 name_a1 ranks_a0) hr
  refine g_len 0 rfl (asl rfl) fun hla0 => ?_
  simp only [List.length_map] at hla0
  refine g_blockJ (fun env σ => env = [(6, .ref b6_0 0 [])] ∧ σ = [.cell b6_0 (.agg [.str ⟨#[]⟩, .int .i64 0, .lst ([].map (D.int .i64))])] ∧ kk0 = some res) ?_ (fun HK0 => ?_)
  ·
    rintro _ _ ⟨rfl, rfl, hr⟩
    rw [hkk0] at hr
    refine g_seq ?_
    refine g_run (by kernel_rfl) [(0, .d), (1, .w), (2, .d)] rfl ?_
    refine r_d rfl rfl rfl (s_build rfl bt_api_Rank .nil (.nil _)) ?_
    refine r_w01 rfl rfl rfl (t_store0 _ rfl rfl rfl (Wk.refl _) (pf0 _) (by exact ty_api_Rank) rfl rfl rfl) ?_
    refine r_d rfl rfl rfl (s_assign rfl rfl) ?_
    refine r_end ?_
    obtain rfl := Option.some.inj hr
    refine g_ret Try.func36 _ (.cons (resRef rfl (.head _) (by exact ty_api_Rank) rfl (Wk.refl _)) (.cons (resTmp rfl (Wk.refl _)) .nil)) ?_
    rfl
  ·
    refine g_sub [(0, .lst (ranks_a0.map enc_S_api_Rank)), (1, .str name_a1), (2, .int .i64 arity_a2), (6, .ref b6_0 0 []), (8, .int .i64 ((0 : Nat) : Int))] (Sub.cons' rfl (Sub.cons' rfl (Sub.cons' rfl (Sub.cons' rfl (Sub.cons' rfl (Sub.nil _)))))) ?_
    refine g_loop (fun n env σ => ∃ (i_2 : Nat), (n = ranks_a0.length - i_2) ∧ (env = [(0, .lst (ranks_a0.map enc_S_api_Rank)), (1, .str name_a1), (2, .int .i64 arity_a2), (6, .ref b6_0 0 []), (8, .int .i64 (i_2 : Int))]) ∧ (σ = [.cell b6_0 (.agg [.str ⟨#[]⟩, .int .i64 0, .lst ([].map (D.int .i64))])]) ∧ (i_2 ≤ ranks_a0.length) ∧ (lf_constraintref41_find_L0 kk0 arity_a2 name_a1 (ranks_a0.drop i_2) = some res)) _ ⟨0, rfl, rfl, rfl, Nat.zero_le _, hr⟩ ?_
    rintro n _ _ ⟨i_2, rfl, rfl, rfl, hi0, hr⟩ IH0
    rcases listStep ranks_a0 i_2 hi0 with ⟨ht0, hd0, he0⟩ | ⟨q_3, ht0, hd0, hq0, hlt0⟩
    ·
      rw [hd0, lf_constraintref41_find_L0] at hr
      refine g_seq ?_
      refine g_seq ?_
      refine g_run (by kernel_rfl) [(0, .d), (1, .d), (2, .d), (3, .d)] rfl ?_
      refine r_d rfl rfl rfl (s_move rfl rfl) ?_
      refine r_d rfl rfl rfl (s_move rfl rfl) ?_
      refine r_d rfl rfl rfl (m_len (f := enc_S_api_Rank) ranks_a0 rfl el_L_api_Rank rfl (asl rfl)) ?_
      refine r_d rfl rfl rfl (s_cmp rfl rfl rfl rfl) ?_
      refine r_end ?_
      refine g_known 12 false rfl ht0 ?_
      refine g_condF rfl ?_
      refine g_exit rfl ?_
      refine g_sub [(6, .ref b6_0 0 [])] (Sub.cons' rfl (Sub.nil _)) ?_
      exact HK0 _ _ ⟨rfl, rfl, hr⟩
    ·
      rw [hd0, lf_constraintref41_find_L0] at hr
      refine g_seq ?_
      refine g_seq ?_
      refine g_run (by kernel_rfl) [(0, .d), (1, .d), (2, .d), (3, .d)] rfl ?_
      refine r_d rfl rfl rfl (s_move rfl rfl) ?_
      refine r_d rfl rfl rfl (s_move rfl rfl) ?_
      refine r_d rfl rfl rfl (m_len (f := enc_S_api_Rank) ranks_a0 rfl el_L_api_Rank rfl (asl rfl)) ?_
      refine r_d rfl rfl rfl (s_cmp rfl rfl rfl rfl) ?_
      refine r_end ?_
      refine g_known 12 true rfl ht0 ?_
      refine g_condT rfl ?_
      refine g_skip ?_
      refine g_seq ?_
      refine g_block ?_
      refine g_seq ?_
      refine g_run (by kernel_rfl) [(0, .d), (1, .d), (2, .d), (3, .d), (4, .d), (5, .d), (6, .d), (7, .d), (8, .d), (9, .d), (10, .d), (11, .d), (12, .d), (13, .d), (14, .d), (15, .d), (16, .d)] rfl ?_
      refine r_d rfl rfl rfl (s_move rfl rfl) ?_
      refine r_d rfl rfl rfl (s_move rfl rfl) ?_
      refine r_d rfl rfl rfl (m_index (f := enc_S_api_Rank) ranks_a0 rfl el_L_api_Rank rfl (asl rfl) rfl hq0 sz_S_api_Rank rfl) ?_
      refine r_d rfl rfl rfl (s_fieldAddr rfl fl_api_Rank_0 rfl rfl rfl rfl) ?_
      refine r_d rfl rfl rfl (s_load rfl rfl (by exact ty_string) rfl) ?_
      refine r_d rfl rfl rfl (s_move rfl rfl) ?_
      refine r_d rfl rfl rfl (s_cmpS rfl rfl rfl rfl) ?_
      refine r_d rfl rfl rfl (s_move rfl rfl) ?_
      refine r_sB 22 rfl hr (fun h22_3 hr => ?_) (fun h22_3 hr => ?_)
      ·
        refine r_d rfl rfl rfl (s_move rfl rfl) ?_
        refine r_d rfl rfl rfl (s_move rfl rfl) ?_
        refine r_d rfl rfl rfl (m_index (f := enc_S_api_Rank) ranks_a0 rfl el_L_api_Rank rfl (asl rfl) rfl hq0 sz_S_api_Rank rfl) ?_
        refine r_d rfl rfl rfl (s_fieldAddr rfl fl_api_Rank_2 rfl rfl rfl rfl) ?_
        refine r_d rfl rfl rfl (s_load rfl rfl (by exact ty_L_int) rfl) ?_
        refine r_d rfl rfl rfl (m_len (f := (D.int .i64)) q_3.f2_Factors rfl el_L_int rfl (asl rfl)) ?_
        refine r_d rfl rfl rfl (s_move rfl rfl) ?_
        refine r_d rfl rfl rfl (s_cmp rfl rfl rfl rfl) ?_
        refine r_d rfl rfl rfl (s_pickT rfl rfl rfl) ?_
        refine r_end ?_
        refine g_sB 31 rfl hr (fun h31_4 hr => ?_) (fun h31_4 hr => ?_)
        ·
          refine g_condT rfl ?_
          refine g_seq ?_
          refine g_run (by kernel_rfl) [(0, .d), (1, .d), (2, .d), (3, .d), (4, .w), (5, .d)] rfl ?_
          refine r_d rfl rfl rfl (s_move rfl rfl) ?_
          refine r_d rfl rfl rfl (s_move rfl rfl) ?_
          refine r_d rfl rfl rfl (m_index (f := enc_S_api_Rank) ranks_a0 rfl el_L_api_Rank rfl (asl rfl) rfl hq0 sz_S_api_Rank rfl) ?_
          refine r_d rfl rfl rfl (s_load rfl rfl (by exact ty_api_Rank) (sz_S_api_Rank _)) ?_
          refine r_w01 rfl rfl rfl (t_store0 _ rfl rfl rfl (Wk.refl _) (pf0 _) (by exact ty_api_Rank) (sz_S_api_Rank _) rfl rfl) ?_
          refine r_d rfl rfl rfl (s_assign rfl rfl) ?_
          refine r_end ?_
          obtain rfl := Option.some.inj hr
          refine g_ret Try.func36 _ (.cons (resRef rfl (.head _) (by exact ty_api_Rank) (sz_S_api_Rank _) (Wk.refl _)) (.cons (resTmp rfl (Wk.refl _)) .nil)) ?_
          rfl
        ·
          refine g_condF rfl ?_
          refine g_skip ?_
          refine g_inBlock ?_
          refine g_run (by kernel_rfl) [(0, .d), (1, .d), (2, .d)] rfl ?_
          refine r_d rfl rfl rfl (s_move rfl rfl) ?_
          refine r_d rfl rfl rfl (s_ar (r := ((i_2 + 1 : Nat) : Int)) rfl rfl rfl (by simp [iar]) (by omega)) ?_
          refine r_d rfl rfl rfl (s_assign rfl rfl) ?_
          refine r_end ?_
          refine g_sub [(0, .lst (ranks_a0.map enc_S_api_Rank)), (1, .str name_a1), (2, .int .i64 arity_a2), (6, .ref b6_0 0 []), (8, .int .i64 ((i_2 + 1 : Nat) : Int))] (Sub.cons' rfl (Sub.cons' rfl (Sub.cons' rfl (Sub.cons' rfl (Sub.cons' rfl (Sub.nil _)))))) ?_
          exact IH0 _ _ _ (by omega) ⟨(i_2 + 1), rfl, rfl, rfl, (by omega), hr⟩
      ·
        refine r_skip rfl rfl rfl ?_
        refine r_skip rfl rfl rfl ?_
        refine r_skip rfl rfl rfl ?_
        refine r_skip rfl rfl rfl ?_
        refine r_skip rfl rfl rfl ?_
        refine r_skip rfl rfl rfl ?_
        refine r_skip rfl rfl rfl ?_
        refine r_skip rfl rfl rfl ?_
        refine r_d rfl rfl rfl (s_pickF rfl rfl rfl) ?_
        refine r_end ?_
        refine g_condF rfl ?_
        refine g_skip ?_
        refine g_inBlock ?_
        refine g_run (by kernel_rfl) [(0, .d), (1, .d), (2, .d)] rfl ?_
        refine r_d rfl rfl rfl (s_move rfl rfl) ?_
        refine r_d rfl rfl rfl (s_ar (r := ((i_2 + 1 : Nat) : Int)) rfl rfl rfl (by simp [iar]) (by omega)) ?_
        refine r_d rfl rfl rfl (s_assign rfl rfl) ?_
        refine r_end ?_
        refine g_sub [(0, .lst (ranks_a0.map enc_S_api_Rank)), (1, .str name_a1), (2, .int .i64 arity_a2), (6, .ref b6_0 0 []), (8, .int .i64 ((i_2 + 1 : Nat) : Int))] (Sub.cons' rfl (Sub.cons' rfl (Sub.cons' rfl (Sub.cons' rfl (Sub.cons' rfl (Sub.nil _)))))) ?_
        exact IH0 _ _ _ (by omega) ⟨(i_2 + 1), rfl, rfl, rfl, (by omega), hr⟩

noncomputable def lf_constraintref03_has_L0 (k : Option (Bool)) (n_a1 : Int) : List Int → Option (Bool)
  | [] =>
  k
  | q_2 :: rest =>
  (bif (q_2 == n_a1) then
  some (true)
  else
  (lf_constraintref03_has_L0 k n_a1 rest))
noncomputable def lf_constraintref03_has (l_a0 : (List Int)) (n_a1 : Int) : Option (Bool) :=
  (lf_constraintref03_has_L0 (some (false)) n_a1 l_a0)

set_option maxHeartbeats 1000000 in
theorem lg_constraintref03_has (l_a0 : (List Int)) (n_a1 : Int) (res : Bool) (hr : lf_constraintref03_has l_a0 n_a1 = some res) : Gives Try.prog 73 [.lst (l_a0.map (D.int .i64)), .int .i64 n_a1] (.bool res) := by
  unfold lf_constraintref03_has at hr
  refine spec_env [(0, .lst (l_a0.map (D.int .i64))), (1, .int .i64 n_a1)] Try.func73 rfl rfl fun K hK => ?_
  refine g_seq ?_
  refine g_run (by kernel_rfl) [(0, .d)] rfl ?_
  refine r_d rfl rfl rfl (s_assign rfl rfl) ?_
  refine r_end ?_
  refine g_seq ?_
  refine g_seq ?_
  refine g_run (by kernel_rfl) [(0, .d)] rfl ?_
  refine r_d rfl rfl rfl (s_assign rfl rfl) ?_
  refine r_end ?_
  obtain ⟨kk0, hkk0, hr⟩ := exK (fun k => lf_constraintref03_has_L0 k n_a1 l_a0) hr
  refine g_len 0 rfl (asl rfl) fun hla0 => ?_
  simp only [List.length_map] at hla0
  refine g_blockJ (fun env σ => env = [] ∧ σ = [] ∧ kk0 = some res) ?_ (fun HK0 => ?_)
  ·
    rintro _ _ ⟨rfl, rfl, hr⟩
    rw [hkk0] at hr
    refine g_seq ?_
    refine g_run (by kernel_rfl) [(0, .d)] rfl ?_
    refine r_d rfl rfl rfl (s_assign rfl rfl) ?_
    refine r_end ?_
    obtain rfl := Option.some.inj hr
    refine g_ret Try.func73 _ (.cons (resTmp rfl (Wk.refl _)) .nil) ?_
    rfl
  ·
    refine g_sub [(0, .lst (l_a0.map (D.int .i64))), (1, .int .i64 n_a1), (5, .int .i64 ((0 : Nat) : Int))] (Sub.cons' rfl (Sub.cons' rfl (Sub.cons' rfl (Sub.nil _)))) ?_
    refine g_loop (fun n env σ => ∃ (i_1 : Nat), (n = l_a0.length - i_1) ∧ (env = [(0, .lst (l_a0.map (D.int .i64))), (1, .int .i64 n_a1), (5, .int .i64 (i_1 : Int))]) ∧ (σ = []) ∧ (i_1 ≤ l_a0.length) ∧ (lf_constraintref03_has_L0 kk0 n_a1 (l_a0.drop i_1) = some res)) _ ⟨0, rfl, rfl, rfl, Nat.zero_le _, hr⟩ ?_
    rintro n _ _ ⟨i_1, rfl, rfl, rfl, hi0, hr⟩ IH0
    rcases listStep l_a0 i_1 hi0 with ⟨ht0, hd0, he0⟩ | ⟨q_2, ht0, hd0, hq0, hlt0⟩
    ·
      rw [hd0, lf_constraintref03_has_L0] at hr
      refine g_seq ?_
      refine g_seq ?_
      refine g_run (by kernel_rfl) [(0, .d), (1, .d), (2, .d), (3, .d)] rfl ?_
      refine r_d rfl rfl rfl (s_move rfl rfl) ?_
      refine r_d rfl rfl rfl (s_move rfl rfl) ?_
      refine r_d rfl rfl rfl (m_len (f := (D.int .i64)) l_a0 rfl el_L_int rfl (asl rfl)) ?_
      refine r_d rfl rfl rfl (s_cmp rfl rfl rfl rfl) ?_
      refine r_end ?_
      refine g_known 9 false rfl ht0 ?_
      refine g_condF rfl ?_
      refine g_exit rfl ?_
      refine g_sub [] (Sub.nil _) ?_
      exact HK0 _ _ ⟨rfl, rfl, hr⟩
    ·
      rw [hd0, lf_constraintref03_has_L0] at hr
      refine g_seq ?_
      refine g_seq ?_
      refine g_run (by kernel_rfl) [(0, .d), (1, .d), (2, .d), (3, .d)] rfl ?_
      refine r_d rfl rfl rfl (s_move rfl rfl) ?_
      refine r_d rfl rfl rfl (s_move rfl rfl) ?_
      refine r_d rfl rfl rfl (m_len (f := (D.int .i64)) l_a0 rfl el_L_int rfl (asl rfl)) ?_
      refine r_d rfl rfl rfl (s_cmp rfl rfl rfl rfl) ?_
      refine r_end ?_
      refine g_known 9 true rfl ht0 ?_
      refine g_condT rfl ?_
      refine g_skip ?_
      refine g_seq ?_
      refine g_block ?_
      refine g_seq ?_
      refine g_run (by kernel_rfl) [(0, .d), (1, .d), (2, .d), (3, .d), (4, .d), (5, .d)] rfl ?_
      refine r_d rfl rfl rfl (s_move rfl rfl) ?_
      refine r_d rfl rfl rfl (s_move rfl rfl) ?_
      refine r_d rfl rfl rfl (m_index (f := (D.int .i64)) l_a0 rfl el_L_int rfl (asl rfl) rfl hq0 (fun _ => rfl) rfl) ?_
      refine r_d rfl rfl rfl (s_load rfl rfl (by exact ty_int) rfl) ?_
      refine r_d rfl rfl rfl (s_move rfl rfl) ?_
      refine r_d rfl rfl rfl (s_cmp rfl rfl rfl rfl) ?_
      refine r_end ?_
      refine g_sB 17 rfl hr (fun h17_2 hr => ?_) (fun h17_2 hr => ?_)
      ·
        refine g_condT rfl ?_
        refine g_seq ?_
        refine g_run (by kernel_rfl) [(0, .d)] rfl ?_
        refine r_d rfl rfl rfl (s_assign rfl rfl) ?_
        refine r_end ?_
        obtain rfl := Option.some.inj hr
        refine g_ret Try.func73 _ (.cons (resTmp rfl (Wk.refl _)) .nil) ?_
        rfl
      ·
        refine g_condF rfl ?_
        refine g_skip ?_
        refine g_inBlock ?_
        refine g_run (by kernel_rfl) [(0, .d), (1, .d), (2, .d)] rfl ?_
        refine r_d rfl rfl rfl (s_move rfl rfl) ?_
        refine r_d rfl rfl rfl (s_ar (r := ((i_1 + 1 : Nat) : Int)) rfl rfl rfl (by simp [iar]) (by omega)) ?_
        refine r_d rfl rfl rfl (s_assign rfl rfl) ?_
        refine r_end ?_
        refine g_sub [(0, .lst (l_a0.map (D.int .i64))), (1, .int .i64 n_a1), (5, .int .i64 ((i_1 + 1 : Nat) : Int))] (Sub.cons' rfl (Sub.cons' rfl (Sub.cons' rfl (Sub.nil _)))) ?_
        exact IH0 _ _ _ (by omega) ⟨(i_1 + 1), rfl, rfl, rfl, (by omega), hr⟩

noncomputable def lf_constraintref03_args (t_a0 : T) : Option ((List T)) :=
  (bif (t_a0.k == (2 : Int)) then
  some (t_a0.ar)
  else
  some ([]))

set_option maxHeartbeats 1000000 in
theorem lg_constraintref03_args (t_a0 : T) (res : (List T)) (hr : lf_constraintref03_args t_a0 = some res) : Gives Try.prog 65 [encT t_a0] (.lst (res.map encT)) := by
  unfold lf_constraintref03_args at hr
  refine spec_env [(0, encT t_a0)] Try.func65 rfl rfl fun K hK => ?_
  refine g_seq ?_
  refine g_run (by kernel_rfl) [(0, .d), (1, .d)] rfl ?_
  refine r_d rfl rfl rfl (s_box rfl rfl rfl) ?_
  refine r_d rfl rfl rfl (s_assign rfl rfl) ?_
  refine r_end ?_
  refine g_seq ?_
  refine g_seq ?_
  refine g_run (by kernel_rfl) [(0, .d), (1, .d), (2, .d)] rfl ?_
  refine r_d rfl rfl rfl (s_fieldAddr rfl fl_api_Term_0 rfl (fsT_get0 _) (fsT_off0 _) rfl) ?_
  refine r_d rfl rfl rfl (s_load rfl rfl (by exact ty_int) rfl) ?_
  refine r_d rfl rfl rfl (s_cmp rfl rfl rfl rfl) ?_
  refine r_end ?_
  refine g_sB 5 rfl hr (fun h5_0 hr => ?_) (fun h5_0 hr => ?_)
  ·
    refine g_condT rfl ?_
    refine g_seq ?_
    refine g_run (by kernel_rfl) [(0, .d), (1, .d), (2, .d)] rfl ?_
    refine r_d rfl rfl rfl (s_fieldAddr rfl fl_api_Term_3 rfl (fsT_get3 _) (fsT_off3 _) rfl) ?_
    refine r_d rfl rfl rfl (s_load rfl rfl (by exact ty_L_api_Term) rfl) ?_
    refine r_d rfl rfl rfl (s_assign rfl rfl) ?_
    refine r_end ?_
    obtain rfl := Option.some.inj hr
    refine g_ret Try.func65 _ (.cons (resTmp rfl (Wk.refl _)) .nil) ?_
    rfl
  ·
    refine g_condF rfl ?_
    refine g_skip ?_
    refine g_seq ?_
    refine g_run (by kernel_rfl) [(0, .d)] rfl ?_
    refine r_d rfl rfl rfl (s_assign rfl rfl) ?_
    refine r_end ?_
    obtain rfl := Option.some.inj hr
    refine g_ret Try.func65 _ (.cons (resTmp rfl (Wk.full _)) .nil) ?_
    rfl

noncomputable def lf_constraintref03_vars_s1_L0 (k : ((List Int)) → Option ((List Int))) (rec : (List Int) → T → Option ((List Int))) : List T → (List Int) → Option ((List Int))
  | [], l_6 =>
  (k l_6)
  | q_10 :: rest, l_6 =>
  ((rec l_6 q_10).bind fun r_11 =>
  (lf_constraintref03_vars_s1_L0 k rec rest r_11))

noncomputable def lf_constraintref03_vars_s1_J0 (k : ((List Int)) → Option ((List Int))) (l_a0 : (List Int)) (t_a1 : T) : Option ((List Int)) :=
  (bif (t_a1.k == (1 : Int)) then
  ((lf_constraintref03_has l_a0 t_a1.i).bind fun r_14 =>
  (bif (!r_14) then
  ((appO 8 l_a0 [t_a1.i]).bind fun l_16 =>
  (k l_16))
  else
  (k l_a0)))
  else
  (k l_a0))
noncomputable def lf_constraintref03_vars_s1 : Nat → (List Int) → T → Option ((List Int))
  | 0, _, _ => none
  | fuel + 1, l_a0, t_a1 =>
    (fun (rec : (List Int) → T → Option ((List Int))) =>
      (lf_constraintref03_vars_s1_J0 (fun l_3 =>
      ((lf_constraintref03_args t_a1).bind fun r_4 =>
      (lf_constraintref03_vars_s1_L0 (fun l_9 =>
      some (l_9)) rec r_4 l_3))) l_a0 t_a1)) (lf_constraintref03_vars_s1 fuel)

set_option maxHeartbeats 1000000 in
theorem lgs_constraintref03_vars_s1 (fuel : Nat) (rec : (List Int) → T → Option ((List Int))) (IHR : ∀ (l_a0 : (List Int)) (t_a1 : T) (u_o0 : Value) (res : (List Int)), rec l_a0 t_a1 = some res → Spec Try.prog 66 [.own u_o0 (l_a0.map (D.int .i64)), encT t_a1] [.row u_o0 l_a0.length 3 1] (fun d σ => ∃ (u_o0' : Value), d = .own u_o0' (res.map (D.int .i64)) ∧ σ = [.row u_o0' res.length 3 1])) (l_a0 : (List Int)) (t_a1 : T) (u_o0 : Value) (res : (List Int))
    (hr : (lf_constraintref03_vars_s1_J0 (fun l_3 =>
((lf_constraintref03_args t_a1).bind fun r_4 =>
(lf_constraintref03_vars_s1_L0 (fun l_9 =>
some (l_9)) rec r_4 l_3))) l_a0 t_a1) = some res) : Spec Try.prog 66 [.own u_o0 (l_a0.map (D.int .i64)), encT t_a1] [.row u_o0 l_a0.length 3 1] (fun d σ => ∃ (u_o0' : Value), d = .own u_o0' (res.map (D.int .i64)) ∧ σ = [.row u_o0' res.length 3 1]) := by
  refine spec_env [(0, .own u_o0 (l_a0.map (D.int .i64))), (1, encT t_a1)] Try.func66 rfl rfl fun K hK => ?_
  refine g_seq ?_
  refine g_run (by kernel_rfl) [(0, .d), (1, .w)] rfl ?_
  refine r_d rfl rfl rfl (s_box rfl rfl rfl) ?_
  refine r_w rfl rfl rfl (s_nilOwn 3 1 (.inl rfl)) ?_
  rintro _ _ ⟨u4_0, rfl, rfl⟩
  refine r_end ?_
  obtain ⟨kkJ0, hkkJ0, hr⟩ := exK (fun k => lf_constraintref03_vars_s1_J0 k l_a0 t_a1) hr
  refine g_seqJ (fun env σ => ∃ (l_3 : (List Int)) (u_2 : Value), env = [(0, .own u_2 (l_3.map (D.int .i64))), (3, .ptr (encT t_a1))] ∧ σ = [.row u_2 l_3.length 3 1] ∧ kkJ0 l_3 = some res) ?_ (fun HKJ0 => ?_)
  ·
    rintro _ _ ⟨l_3, u_2, rfl, rfl, hr⟩
    rw [hkkJ0] at hr
    refine g_seq ?_
    refine g_run (by kernel_rfl) [(0, .d), (1, .d), (2, .d)] rfl ?_
    refine r_d rfl rfl rfl (s_load rfl rfl (by exact ty_api_Term) (sz_encT _)) ?_
    obtain ⟨r_4, hr_4, hr⟩ := bindS hr
    refine r_d rfl rfl rfl (s_callD rfl cl_constraintref03_args (.cons rfl (Wk.refl _) .nil) (lg_constraintref03_args _ _ hr_4)) ?_
    refine r_d rfl rfl rfl (s_assign rfl rfl) ?_
    refine r_end ?_
    refine g_seq ?_
    refine g_seq ?_
    refine g_run (by kernel_rfl) [(0, .d)] rfl ?_
    refine r_d rfl rfl rfl (s_assign rfl rfl) ?_
    refine r_end ?_
    obtain ⟨kk0, hkk0, hr⟩ := exK (fun k => lf_constraintref03_vars_s1_L0 k rec r_4 l_3) hr
    refine g_len 23 rfl (asl rfl) fun hla0 => ?_
    simp only [List.length_map] at hla0
    refine g_blockJ (fun env σ => ∃ (l_9 : (List Int)) (u_8 : Value), env = [(0, .own u_8 (l_9.map (D.int .i64)))] ∧ σ = [.row u_8 l_9.length 3 1] ∧ kk0 l_9 = some res) ?_ (fun HK0 => ?_)
    ·
      rintro _ _ ⟨l_9, u_8, rfl, rfl, hr⟩
      rw [hkk0] at hr
      refine g_seq ?_
      refine g_run (by kernel_rfl) [(0, .d), (1, .d)] rfl ?_
      refine r_d rfl rfl rfl (s_move rfl rfl) ?_
      refine r_d rfl rfl rfl (s_assign rfl rfl) ?_
      refine r_end ?_
      obtain rfl := Option.some.inj hr
      refine g_ret Try.func66 _ (.cons (resTmp rfl (Wk.refl _)) .nil) ?_
      exact ⟨u_8, rfl, rfl⟩
    ·
      refine g_sub [(5, .lst (r_4.map encT)), (0, .own u_2 (l_3.map (D.int .i64))), (6, .int .i64 ((0 : Nat) : Int))] (Sub.cons' rfl (Sub.cons' rfl (Sub.cons' rfl (Sub.nil _)))) ?_
      refine g_loop (fun n env σ => ∃ (l_6 : (List Int)) (i_7 : Nat) (u_5 : Value), (n = r_4.length - i_7) ∧ (env = [(5, .lst (r_4.map encT)), (0, .own u_5 (l_6.map (D.int .i64))), (6, .int .i64 (i_7 : Int))]) ∧ (σ = [.row u_5 l_6.length 3 1]) ∧ (i_7 ≤ r_4.length) ∧ (lf_constraintref03_vars_s1_L0 kk0 rec (r_4.drop i_7) l_6 = some res)) _ ⟨l_3, 0, u_2, rfl, rfl, rfl, Nat.zero_le _, hr⟩ ?_
      rintro n _ _ ⟨l_6, i_7, u_5, rfl, rfl, rfl, hi0, hr⟩ IH0
      rcases listStep r_4 i_7 hi0 with ⟨ht0, hd0, he0⟩ | ⟨q_10, ht0, hd0, hq0, hlt0⟩
      ·
        rw [hd0, lf_constraintref03_vars_s1_L0] at hr
        refine g_seq ?_
        refine g_seq ?_
        refine g_run (by kernel_rfl) [(0, .d), (1, .d), (2, .d), (3, .d)] rfl ?_
        refine r_d rfl rfl rfl (s_move rfl rfl) ?_
        refine r_d rfl rfl rfl (s_move rfl rfl) ?_
        refine r_d rfl rfl rfl (m_len (f := encT) r_4 rfl el_L_api_Term rfl (asl rfl)) ?_
        refine r_d rfl rfl rfl (s_cmp rfl rfl rfl rfl) ?_
        refine r_end ?_
        refine g_known 27 false rfl ht0 ?_
        refine g_condF rfl ?_
        refine g_exit rfl ?_
        refine g_sub [(0, .own u_5 (l_6.map (D.int .i64)))] (Sub.cons' rfl (Sub.nil _)) ?_
        exact HK0 _ _ ⟨l_6, u_5, rfl, rfl, hr⟩
      ·
        rw [hd0, lf_constraintref03_vars_s1_L0] at hr
        refine g_seq ?_
        refine g_seq ?_
        refine g_run (by kernel_rfl) [(0, .d), (1, .d), (2, .d), (3, .d)] rfl ?_
        refine r_d rfl rfl rfl (s_move rfl rfl) ?_
        refine r_d rfl rfl rfl (s_move rfl rfl) ?_
        refine r_d rfl rfl rfl (m_len (f := encT) r_4 rfl el_L_api_Term rfl (asl rfl)) ?_
        refine r_d rfl rfl rfl (s_cmp rfl rfl rfl rfl) ?_
        refine r_end ?_
        refine g_known 27 true rfl ht0 ?_
        refine g_condT rfl ?_
        refine g_skip ?_
        refine g_seq ?_
        refine g_block ?_
        refine g_run (by kernel_rfl) [(0, .d), (1, .d), (2, .d), (3, .d), (4, .d), (5, .w), (6, .d)] rfl ?_
        refine r_d rfl rfl rfl (s_move rfl rfl) ?_
        refine r_d rfl rfl rfl (s_move rfl rfl) ?_
        refine r_d rfl rfl rfl (s_move rfl rfl) ?_
        refine r_d rfl rfl rfl (m_index (f := encT) r_4 rfl el_L_api_Term rfl (asl rfl) rfl hq0 sz_encT rfl) ?_
        refine r_d rfl rfl rfl (s_load rfl rfl (by exact ty_api_Term) (sz_encT _)) ?_
        obtain ⟨r_11, hr_11, hr⟩ := bindS hr
        refine r_w rfl rfl rfl (s_call _ rfl cl_constraintref03_vars (.cons rfl (Wk.refl _) (.cons rfl (Wk.refl _) .nil)) (by exact (pf0 _)) (IHR _ _ _ _ hr_11)) ?_
        rintro _ _ ⟨_, ⟨u35_11, rfl, rfl⟩, rfl⟩
        refine r_st ((.row u35_11 r_11.length 3 1) :: _) rfl ?_
        refine r_d rfl rfl rfl (s_assign rfl rfl) ?_
        refine r_end ?_
        refine g_inBlock ?_
        refine g_run (by kernel_rfl) [(0, .d), (1, .d), (2, .d)] rfl ?_
        refine r_d rfl rfl rfl (s_move rfl rfl) ?_
        refine r_d rfl rfl rfl (s_ar (r := ((i_7 + 1 : Nat) : Int)) rfl rfl rfl (by simp [iar]) (by omega)) ?_
        refine r_d rfl rfl rfl (s_assign rfl rfl) ?_
        refine r_end ?_
        refine g_sub [(5, .lst (r_4.map encT)), (0, .own u35_11 (r_11.map (D.int .i64))), (6, .int .i64 ((i_7 + 1 : Nat) : Int))] (Sub.cons' rfl (Sub.cons' rfl (Sub.cons' rfl (Sub.nil _)))) ?_
        exact IH0 _ _ _ (by omega) ⟨r_11, (i_7 + 1), u35_11, rfl, rfl, rfl, (by omega), hr⟩
  ·
    unfold lf_constraintref03_vars_s1_J0 at hr
    refine g_seq ?_
    refine g_run (by kernel_rfl) [(0, .d), (1, .d), (2, .d), (3, .d), (4, .d), (5, .d), (6, .d), (7, .d), (8, .d), (9, .d)] rfl ?_
    refine r_d rfl rfl rfl (s_fieldAddr rfl fl_api_Term_0 rfl (fsT_get0 _) (fsT_off0 _) rfl) ?_
    refine r_d rfl rfl rfl (s_load rfl rfl (by exact ty_int) rfl) ?_
    refine r_d rfl rfl rfl (s_cmp rfl rfl rfl rfl) ?_
    refine r_d rfl rfl rfl (s_move rfl rfl) ?_
    refine r_sB 10 rfl hr (fun h10_12 hr => ?_) (fun h10_12 hr => ?_)
    ·
      refine r_d rfl rfl rfl (s_move rfl rfl) ?_
      refine r_d rfl rfl rfl (s_fieldAddr rfl fl_api_Term_1 rfl (fsT_get1 _) (fsT_off1 _) rfl) ?_
      refine r_d rfl rfl rfl (s_load rfl rfl (by exact ty_int) rfl) ?_
      obtain ⟨r_14, hr_14, hr⟩ := bindS hr
      refine r_d rfl rfl rfl (s_callD rfl cl_constraintref03_has (.cons rfl (Wk.own _ _) (.cons rfl (Wk.refl _) .nil)) (lg_constraintref03_has _ _ _ hr_14)) ?_
      refine r_d rfl rfl rfl (s_not rfl rfl) ?_
      refine r_d rfl rfl rfl (s_pickT rfl rfl rfl) ?_
      refine r_end ?_
      refine g_sB 16 rfl hr (fun h16_14 hr => ?_) (fun h16_14 hr => ?_)
      ·
        refine g_condT rfl ?_
        refine g_run (by kernel_rfl) [(0, .d), (1, .d), (2, .d), (3, .d), (4, .w), (5, .d)] rfl ?_
        refine r_d rfl rfl rfl (s_move rfl rfl) ?_
        refine r_d rfl rfl rfl (s_fieldAddr rfl fl_api_Term_1 rfl (fsT_get1 _) (fsT_off1 _) rfl) ?_
        refine r_d rfl rfl rfl (s_load rfl rfl (by exact ty_int) rfl) ?_
        refine r_d rfl rfl rfl (m_lit (f := (D.int .i64)) [.tmp 19] [t_a1.i] rfl el_L_int rfl rfl (by decide) (by decide) (.cons rfl (Wk.refl _) .nil) (fun _ => rfl) (fun _ => rfl)) ?_
        obtain ⟨l_16, hl_16, hr⟩ := bindS hr
        refine r_w rfl rfl rfl (m_appOwn (f := (D.int .i64)) l_a0 [t_a1.i] rfl el_L_int rfl rfl (asl rfl) (pf1 _ _ _) rfl (fun _ => rfl) hl_16) ?_
        rintro _ _ ⟨u21_16, rfl, rfl⟩
        refine r_d rfl rfl rfl (s_assign rfl rfl) ?_
        refine r_end ?_
        refine g_sub [(0, .own u21_16 (l_16.map (D.int .i64))), (3, .ptr (encT t_a1))] (Sub.cons' rfl (Sub.cons' rfl (Sub.nil _))) ?_
        refine g_perm [_] _ (pf0 _) ?_
        exact HKJ0 _ _ ⟨l_16, u21_16, rfl, rfl, hr⟩
      ·
        refine g_condF rfl ?_
        refine g_skip ?_
        refine g_sub [(0, .own u_o0 (l_a0.map (D.int .i64))), (3, .ptr (encT t_a1))] (Sub.cons' rfl (Sub.cons' rfl (Sub.nil _))) ?_
        refine g_perm [_] _ (pf1 _ _ _) ?_
        exact HKJ0 _ _ ⟨l_a0, u_o0, rfl, rfl, hr⟩
    ·
      refine r_skip rfl rfl rfl ?_
      refine r_skip rfl rfl rfl ?_
      refine r_skip rfl rfl rfl ?_
      refine r_skip rfl rfl rfl ?_
      refine r_skip rfl rfl rfl ?_
      refine r_d rfl rfl rfl (s_pickF rfl rfl rfl) ?_
      refine r_end ?_
      refine g_condF rfl ?_
      refine g_skip ?_
      refine g_sub [(0, .own u_o0 (l_a0.map (D.int .i64))), (3, .ptr (encT t_a1))] (Sub.cons' rfl (Sub.cons' rfl (Sub.nil _))) ?_
      refine g_perm [_] _ (pf1 _ _ _) ?_
      exact HKJ0 _ _ ⟨l_a0, u_o0, rfl, rfl, hr⟩
theorem lg_constraintref03_vars_s1 : ∀ (fuel : Nat) (l_a0 : (List Int)) (t_a1 : T) (u_o0 : Value) (res : (List Int)), lf_constraintref03_vars_s1 fuel l_a0 t_a1 = some res → Spec Try.prog 66 [.own u_o0 (l_a0.map (D.int .i64)), encT t_a1] [.row u_o0 l_a0.length 3 1] (fun d σ => ∃ (u_o0' : Value), d = .own u_o0' (res.map (D.int .i64)) ∧ σ = [.row u_o0' res.length 3 1])
  | 0, _, _, _, _, h => by cases h
  | fuel + 1, l_a0, t_a1, u_o0, res, h => lgs_constraintref03_vars_s1 fuel (lf_constraintref03_vars_s1 fuel) (lg_constraintref03_vars_s1 fuel) l_a0 t_a1 u_o0 res h

noncomputable def lf_constraintref03_VarsOf_L0 (k : ((List Int)) → Option ((List Int))) (fuel : Nat) : List T → (List Int) → Option ((List Int))
  | [], out_4 =>
  (k out_4)
  | q_8 :: rest, out_4 =>
  ((lf_constraintref03_vars_s1 fuel out_4 q_8).bind fun r_9 =>
  (lf_constraintref03_VarsOf_L0 k fuel rest r_9))
noncomputable def lf_constraintref03_VarsOf (fuel : Nat) (l_a0 : (List T)) : Option ((List Int)) :=
  (lf_constraintref03_VarsOf_L0 (fun out_7 =>
  some (out_7)) fuel l_a0 [])

set_option maxHeartbeats 1000000 in
theorem lg_constraintref03_VarsOf (fuel : Nat) (l_a0 : (List T)) (res : (List Int)) (hr : lf_constraintref03_VarsOf fuel l_a0 = some res) : Gives Try.prog 57 [.lst (l_a0.map encT)] (.lst (res.map (D.int .i64))) := by
  unfold lf_constraintref03_VarsOf at hr
  refine spec_env [(0, .lst (l_a0.map encT))] Try.func57 rfl rfl fun K hK => ?_
  refine g_seq ?_
  refine g_run (by kernel_rfl) [(0, .w)] rfl ?_
  refine r_w rfl rfl rfl (s_nilOwn 3 1 (.inl rfl)) ?_
  rintro _ _ ⟨u2_0, rfl, rfl⟩
  refine r_end ?_
  refine g_seq ?_
  refine g_run (by kernel_rfl) [(0, .w)] rfl ?_
  refine r_w rfl rfl rfl (s_nilOwn 3 1 (.inl rfl)) ?_
  rintro _ _ ⟨u3_1, rfl, rfl⟩
  refine r_end ?_
  refine g_seq ?_
  refine g_seq ?_
  refine g_run (by kernel_rfl) [(0, .d)] rfl ?_
  refine r_d rfl rfl rfl (s_assign rfl rfl) ?_
  refine r_end ?_
  obtain ⟨kk0, hkk0, hr⟩ := exK (fun k => lf_constraintref03_VarsOf_L0 k fuel l_a0 []) hr
  refine g_len 0 rfl (asl rfl) fun hla0 => ?_
  simp only [List.length_map] at hla0
  refine g_blockJ (fun env σ => ∃ (out_7 : (List Int)) (u_6 : Value), env = [(3, .own u_6 (out_7.map (D.int .i64)))] ∧ σ = [.row u_6 out_7.length 3 1] ∧ kk0 out_7 = some res) ?_ (fun HK0 => ?_)
  ·
    rintro _ _ ⟨out_7, u_6, rfl, rfl, hr⟩
    rw [hkk0] at hr
    refine g_seq ?_
    refine g_run (by kernel_rfl) [(0, .d), (1, .d)] rfl ?_
    refine r_d rfl rfl rfl (s_move rfl rfl) ?_
    refine r_d rfl rfl rfl (s_assign rfl rfl) ?_
    refine r_end ?_
    obtain rfl := Option.some.inj hr
    refine g_ret Try.func57 _ (.cons (resTmp rfl (Wk.own _ _)) .nil) ?_
    rfl
  ·
    refine g_sub [(0, .lst (l_a0.map encT)), (3, .own u3_1 ([].map (D.int .i64))), (4, .int .i64 ((0 : Nat) : Int))] (Sub.cons' rfl (Sub.cons' rfl (Sub.cons' rfl (Sub.nil _)))) ?_
    refine g_perm [_] _ (pf0 _) ?_
    refine g_loop (fun n env σ => ∃ (out_4 : (List Int)) (i_5 : Nat) (u_3 : Value), (n = l_a0.length - i_5) ∧ (env = [(0, .lst (l_a0.map encT)), (3, .own u_3 (out_4.map (D.int .i64))), (4, .int .i64 (i_5 : Int))]) ∧ (σ = [.row u_3 out_4.length 3 1]) ∧ (i_5 ≤ l_a0.length) ∧ (lf_constraintref03_VarsOf_L0 kk0 fuel (l_a0.drop i_5) out_4 = some res)) _ ⟨[], 0, u3_1, rfl, rfl, rfl, Nat.zero_le _, hr⟩ ?_
    rintro n _ _ ⟨out_4, i_5, u_3, rfl, rfl, rfl, hi0, hr⟩ IH0
    rcases listStep l_a0 i_5 hi0 with ⟨ht0, hd0, he0⟩ | ⟨q_8, ht0, hd0, hq0, hlt0⟩
    ·
      rw [hd0, lf_constraintref03_VarsOf_L0] at hr
      refine g_seq ?_
      refine g_seq ?_
      refine g_run (by kernel_rfl) [(0, .d), (1, .d), (2, .d), (3, .d)] rfl ?_
      refine r_d rfl rfl rfl (s_move rfl rfl) ?_
      refine r_d rfl rfl rfl (s_move rfl rfl) ?_
      refine r_d rfl rfl rfl (m_len (f := encT) l_a0 rfl el_L_api_Term rfl (asl rfl)) ?_
      refine r_d rfl rfl rfl (s_cmp rfl rfl rfl rfl) ?_
      refine r_end ?_
      refine g_known 8 false rfl ht0 ?_
      refine g_condF rfl ?_
      refine g_exit rfl ?_
      refine g_sub [(3, .own u_3 (out_4.map (D.int .i64)))] (Sub.cons' rfl (Sub.nil _)) ?_
      exact HK0 _ _ ⟨out_4, u_3, rfl, rfl, hr⟩
    ·
      rw [hd0, lf_constraintref03_VarsOf_L0] at hr
      refine g_seq ?_
      refine g_seq ?_
      refine g_run (by kernel_rfl) [(0, .d), (1, .d), (2, .d), (3, .d)] rfl ?_
      refine r_d rfl rfl rfl (s_move rfl rfl) ?_
      refine r_d rfl rfl rfl (s_move rfl rfl) ?_
      refine r_d rfl rfl rfl (m_len (f := encT) l_a0 rfl el_L_api_Term rfl (asl rfl)) ?_
      refine r_d rfl rfl rfl (s_cmp rfl rfl rfl rfl) ?_
      refine r_end ?_
      refine g_known 8 true rfl ht0 ?_
      refine g_condT rfl ?_
      refine g_skip ?_
      refine g_seq ?_
      refine g_block ?_
      refine g_run (by kernel_rfl) [(0, .d), (1, .d), (2, .d), (3, .d), (4, .d), (5, .w), (6, .d)] rfl ?_
      refine r_d rfl rfl rfl (s_move rfl rfl) ?_
      refine r_d rfl rfl rfl (s_move rfl rfl) ?_
      refine r_d rfl rfl rfl (s_move rfl rfl) ?_
      refine r_d rfl rfl rfl (m_index (f := encT) l_a0 rfl el_L_api_Term rfl (asl rfl) rfl hq0 sz_encT rfl) ?_
      refine r_d rfl rfl rfl (s_load rfl rfl (by exact ty_api_Term) (sz_encT _)) ?_
      obtain ⟨r_9, hr_9, hr⟩ := bindS hr
      refine r_w rfl rfl rfl (s_call _ rfl cl_constraintref03_vars (.cons rfl (Wk.refl _) (.cons rfl (Wk.refl _) .nil)) (by exact (pf0 _)) (lg_constraintref03_vars_s1 fuel _ _ _ _ hr_9)) ?_
      rintro _ _ ⟨_, ⟨u16_9, rfl, rfl⟩, rfl⟩
      refine r_st ((.row u16_9 r_9.length 3 1) :: _) rfl ?_
      refine r_d rfl rfl rfl (s_assign rfl rfl) ?_
      refine r_end ?_
      refine g_inBlock ?_
      refine g_run (by kernel_rfl) [(0, .d), (1, .d), (2, .d)] rfl ?_
      refine r_d rfl rfl rfl (s_move rfl rfl) ?_
      refine r_d rfl rfl rfl (s_ar (r := ((i_5 + 1 : Nat) : Int)) rfl rfl rfl (by simp [iar]) (by omega)) ?_
      refine r_d rfl rfl rfl (s_assign rfl rfl) ?_
      refine r_end ?_
      refine g_sub [(0, .lst (l_a0.map encT)), (3, .own u16_9 (r_9.map (D.int .i64))), (4, .int .i64 ((i_5 + 1 : Nat) : Int))] (Sub.cons' rfl (Sub.cons' rfl (Sub.cons' rfl (Sub.nil _)))) ?_
      exact IH0 _ _ _ (by omega) ⟨r_9, (i_5 + 1), u16_9, rfl, rfl, rfl, (by omega), hr⟩

noncomputable def lf_constraintref03_AtomVars (fuel : Nat) (a_a0 : At) : Option ((List Int)) :=
  ((lf_constraintref03_VarsOf fuel a_a0.ts).bind fun r_1 =>
  some (r_1))

set_option maxHeartbeats 1000000 in
theorem lg_constraintref03_AtomVars (fuel : Nat) (a_a0 : At) (res : (List Int)) (hr : lf_constraintref03_AtomVars fuel a_a0 = some res) : Gives Try.prog 47 [encA a_a0] (.lst (res.map (D.int .i64))) := by
  unfold lf_constraintref03_AtomVars at hr
  refine spec_env [(0, encA a_a0)] Try.func47 rfl rfl fun K hK => ?_
  refine g_seq ?_
  refine g_run (by kernel_rfl) [(0, .d), (1, .d)] rfl ?_
  refine r_d rfl rfl rfl (s_box rfl rfl rfl) ?_
  refine r_d rfl rfl rfl (s_assign rfl rfl) ?_
  refine r_end ?_
  refine g_seq ?_
  refine g_run (by kernel_rfl) [(0, .d), (1, .d), (2, .d), (3, .d)] rfl ?_
  refine r_d rfl rfl rfl (s_fieldAddr rfl fl_api_Atom_1 rfl rfl rfl rfl) ?_
  refine r_d rfl rfl rfl (s_load rfl rfl (by exact ty_L_api_Term) rfl) ?_
  obtain ⟨r_1, hr_1, hr⟩ := bindS hr
  refine r_d rfl rfl rfl (s_callD rfl cl_constraintref03_VarsOf (.cons rfl (Wk.refl _) .nil) (lg_constraintref03_VarsOf fuel _ _ hr_1)) ?_
  refine r_d rfl rfl rfl (s_assign rfl rfl) ?_
  refine r_end ?_
  obtain rfl := Option.some.inj hr
  refine g_ret Try.func47 _ (.cons (resTmp rfl (Wk.refl _)) .nil) ?_
  rfl

noncomputable def lf_constraintref41_right_L0 (k : Option (Bool)) : List Int → Option (Bool)
  | [] =>
  k
  | q_5 :: rest =>
  (bif (decide (q_5 < (0 : Int))) then
  some (false)
  else
  (bif (decide (q_5 > (1048576 : Int))) then
  some (false)
  else
  (lf_constraintref41_right_L0 k rest)))
noncomputable def lf_constraintref41_right (x_a0 : S_api_Rank) : Option (Bool) :=
  (bif (decide (x_a0.f1_Const < (0 : Int))) then
  some (false)
  else
  (bif (decide (x_a0.f1_Const > (1048576 : Int))) then
  some (false)
  else
  (bif (decide ((x_a0.f2_Factors.length : Int) > (6 : Int))) then
  some (false)
  else
  (lf_constraintref41_right_L0 (some (true)) x_a0.f2_Factors))))

end Go.Proofs.Ythcgefbigimgoaa

