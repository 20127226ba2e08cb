/-
  Texts of the seat, merged.
-/
import Derived.Test.YtdoljfkjdfaakaaGreatLCA
import Derived.Test.YtdoljfkjdfaakaaGreatLCB
import Derived.Test.YtdoljfkjdfaakaaGreatLCC
import Derived.Test.YtdoljfkjdfaakaaGreatChecked
import Derived.WalkKit
import Derived.Lib.Hide
import Derived.Lib.AppendStr
import Derived.Deep.AppendLies
import Derived.Deep.AppendSrc
import Derived.Deep.Draws
import Derived.Deep.QuietTactic
import Derived.BigQuiet
import Derived.Deep.RegionWith
import Derived.Maps.AppendAt
import Derived.WalkSpells
import Derived.Orders
import Derived.Deep.Slices
import Derived.Deep.Fields
import Derived.ChangeArms
import Derived.Lib.OthersKept
import Derived.Lib.TrimU
import Derived.Lib.IndexAny
import Derived.Deep.LoopGhost
import Derived.Lib.Bytealg
import Derived.RangeFuncBox
import Derived.RangeFuncNested
import Derived.RangeFuncBound
import Derived.RangeFuncCalls
import Derived.RangeFuncLeaves
import Derived.Shelf.Abstract
import Derived.OwnWalkIn
import Derived.TacticsInMore
import Derived.LoopNIn
import Derived.LoopIn
import Derived.RangeFuncWrites
import Derived.Maps.OwnIn
import Derived.Maps.Views
import Derived.Laws.OwnMore
import Derived.Maps.OwnSet
import Derived.Laws.IdiomStrings
import Derived.Test.YtdoljfkjdfaakaaGreatRows
import Derived.ProofKit
import Derived.OpenShut
import Derived.Carry
import Derived.OrdersIn
import Derived.Great.BuildSlice
import Derived.ArgAppend
import Derived.Laws.MakeOwn
import Derived.Laws.Cover3
import Derived.Laws.CopyRow
import Derived.MapKept
import Derived.Maps.RangeRun
import Derived.DeepKeys5
import Derived.WideKeyRuns
set_option linter.unusedVariables false
set_option linter.unusedSimpArgs false
set_option linter.unnecessarySimpa false
set_option linter.all false

namespace Go.Proofs.YtdoljfkjdfaakaaGreat
set_option maxRecDepth 100000
open Go.RowKit

structure S_api_Decl where
  f0_Name : ByteArray
  f1_Arity : Int

def enc_S_api_Decl (x : S_api_Decl) : D := .agg [.str x.f0_Name, .int .i64 x.f1_Arity]

theorem sz_S_api_Decl (x : S_api_Decl) : sz (enc_S_api_Decl x) = 2 := by
  simp only [enc_S_api_Decl, sz, szs]

structure S_api_Rule where
  f0_Name : ByteArray
  f1_Keep : (List At)
  f2_Remove : (List At)
  f3_Guard : (List Gl)
  f4_Body : (List Gl)
  f5_Vars : Int

def enc_S_api_Rule (x : S_api_Rule) : D := .agg [.str x.f0_Name, .lst (x.f1_Keep.map encA), .lst (x.f2_Remove.map encA), .lst (x.f3_Guard.map encG), .lst (x.f4_Body.map encG), .int .i64 x.f5_Vars]

theorem sz_S_api_Rule (x : S_api_Rule) : sz (enc_S_api_Rule x) = 6 := by
  simp only [enc_S_api_Rule, sz, szs]

structure S_api_Program where
  f0_Decls : (List S_api_Decl)
  f1_Rules : (List S_api_Rule)

def enc_S_api_Program (x : S_api_Program) : D := .agg [.lst (x.f0_Decls.map enc_S_api_Decl), .lst (x.f1_Rules.map enc_S_api_Rule)]

theorem sz_S_api_Program (x : S_api_Program) : sz (enc_S_api_Program x) = 2 := by
  simp only [enc_S_api_Program, sz, szs]

theorem zvx_P_snapshot_writer : ZeroV Tryz.prog 76 (.nilp) := .val (.pointer none) rfl (by kernel_rfl) rfl

structure S_snapshot_writer where
  f0_b : (List Int)
  f1_bad : Bool

def enc_S_snapshot_writer (x : S_snapshot_writer) : D := .agg [.lst (x.f0_b.map (D.int .u8)), .bool x.f1_bad]

structure S_api_Frame where
  f0_Goal : Gl
  f1_ID : Int
  f2_Occ : Int

def enc_S_api_Frame (x : S_api_Frame) : D := .agg [encG x.f0_Goal, .int .i64 x.f1_ID, .int .i64 x.f2_Occ]

theorem sz_S_api_Frame (x : S_api_Frame) : sz (enc_S_api_Frame x) = 5 := by
  simp only [enc_S_api_Frame, sz, szs, sz_encG]

structure S_api_Fire where
  f0_Rule : Int
  f1_IDs : (List Int)

def enc_S_api_Fire (x : S_api_Fire) : D := .agg [.int .i64 x.f0_Rule, .lst (x.f1_IDs.map (D.int .i64))]

theorem sz_S_api_Fire (x : S_api_Fire) : sz (enc_S_api_Fire x) = 2 := by
  simp only [enc_S_api_Fire, sz, szs]

structure S_api_Config where
  f0_Stack : (List S_api_Frame)
  f1_Store : (List (Int × At))
  f2_Binds : (List (Int × T))
  f3_Fired : (List S_api_Fire)
  f4_Next : Int
  f5_Fresh : Int
  f6_Failed : Bool

def enc_S_api_Config (x : S_api_Config) : D := .agg [.lst (x.f0_Stack.map enc_S_api_Frame), .lst (x.f1_Store.map encIt), .lst (x.f2_Binds.map encP), .lst (x.f3_Fired.map enc_S_api_Fire), .int .i64 x.f4_Next, .int .i64 x.f5_Fresh, .bool x.f6_Failed]

theorem sz_S_api_Config (x : S_api_Config) : sz (enc_S_api_Config x) = 7 := by
  simp only [enc_S_api_Config, sz, szs]

structure S_api_Fact where
  f0_ID : Int
  f1_Atom : At
  f2_Just : (List Int)

def enc_S_api_Fact (x : S_api_Fact) : D := .agg [.int .i64 x.f0_ID, encA x.f1_Atom, .lst (x.f2_Just.map (D.int .i64))]

theorem sz_S_api_Fact (x : S_api_Fact) : sz (enc_S_api_Fact x) = 4 := by
  simp only [enc_S_api_Fact, sz, szs, sz_encA]

structure S_api_Applied where
  f0_Rule : Int
  f1_Heads : (List Int)
  f2_Gone : (List Int)
  f3_Made : (List Int)
  f4_Failed : Bool
  f5_Just : (List Int)

def enc_S_api_Applied (x : S_api_Applied) : D := .agg [.int .i64 x.f0_Rule, .lst (x.f1_Heads.map (D.int .i64)), .lst (x.f2_Gone.map (D.int .i64)), .lst (x.f3_Made.map (D.int .i64)), .bool x.f4_Failed, .lst (x.f5_Just.map (D.int .i64))]

theorem sz_S_api_Applied (x : S_api_Applied) : sz (enc_S_api_Applied x) = 6 := by
  simp only [enc_S_api_Applied, sz, szs]

structure S_api_Memory where
  f0_Facts : (List S_api_Fact)
  f1_Past : (List S_api_Fact)
  f2_Log : (List S_api_Applied)
  f3_Next : Int
  f4_Given : Int

def enc_S_api_Memory (x : S_api_Memory) : D := .agg [.lst (x.f0_Facts.map enc_S_api_Fact), .lst (x.f1_Past.map enc_S_api_Fact), .lst (x.f2_Log.map enc_S_api_Applied), .int .i64 x.f3_Next, .int .i64 x.f4_Given]

noncomputable def lf_Psnapshot_writer_number_s1 (n_a1 : Int) (low_a2 : Int) (high_a3 : Int) (c_0 : S_snapshot_writer) : Option (S_snapshot_writer) :=
  (bif c_0.f1_bad then
  ((x_cPutInt c_0.f0_b n_a1).bind fun r_2 =>
  some ((⟨r_2, true⟩ : S_snapshot_writer)))
  else
  (bif (decide (n_a1 < low_a2)) then
  ((x_cPutInt c_0.f0_b n_a1).bind fun r_4 =>
  some ((⟨r_4, true⟩ : S_snapshot_writer)))
  else
  ((x_cPutInt c_0.f0_b n_a1).bind fun r_5 =>
  some ((⟨r_5, (decide (n_a1 > high_a3))⟩ : S_snapshot_writer)))))

set_option maxHeartbeats 1000000 in
theorem lg_Psnapshot_writer_number_s1 (n_a1 : Int) (low_a2 : Int) (high_a3 : Int) (c_0 : S_snapshot_writer) (b_o0 : Nat) (res : S_snapshot_writer) (hr : lf_Psnapshot_writer_number_s1 n_a1 low_a2 high_a3 c_0 = some res) : Spec Tryz.prog 34 [.ref b_o0 0 [], .int .i64 n_a1, .int .i64 low_a2, .int .i64 high_a3] [.cell b_o0 (enc_S_snapshot_writer c_0)] (fun d σ => d = .tup [] ∧ σ = [.cell b_o0 (enc_S_snapshot_writer res)]) := by
  unfold lf_Psnapshot_writer_number_s1 at hr
  refine spec_env [(0, .ref b_o0 0 []), (1, .int .i64 n_a1), (2, .int .i64 low_a2), (3, .int .i64 high_a3)] Tryz.func34 rfl rfl fun K hK => ?_
  refine g_seq ?_
  refine g_run (by kernel_rfl) [(0, .d), (1, .d), (2, .d), (3, .d), (4, .r), (5, .d), (6, .d), (7, .d), (8, .d), (9, .d), (10, .d), (11, .d), (12, .d), (13, .d), (14, .d), (15, .d), (16, .d), (17, .w)] rfl ?_
  refine r_d rfl rfl rfl (s_move rfl rfl) ?_
  refine r_d rfl rfl rfl (s_move rfl rfl) ?_
  refine r_d rfl rfl rfl (s_nilCheckR rfl rfl) ?_
  refine r_d rfl rfl rfl (s_fieldRef rfl fl_snapshot_writer_1 rfl) ?_
  refine r_r rfl rfl rfl (t_loadRef rfl rfl (.head _) rfl rfl (by exact ty_bool) rfl) ?_
  refine r_d rfl rfl rfl (s_move rfl rfl) ?_
  refine r_sB 13 rfl hr (fun h13_0 hr => ?_) (fun h13_0 hr => ?_)
  ·
   refine r_skip rfl rfl rfl ?_
   refine r_skip rfl rfl rfl ?_
   refine r_skip rfl rfl rfl ?_
   refine r_d rfl rfl rfl (s_pickT rfl rfl rfl) ?_
   refine r_d rfl rfl rfl (s_move rfl rfl) ?_
   refine r_skip rfl rfl rfl ?_
   refine r_skip rfl rfl rfl ?_
   refine r_skip rfl rfl rfl ?_
   refine r_d rfl rfl rfl (s_pickT rfl rfl rfl) ?_
   refine r_d rfl rfl rfl (s_nilCheckR rfl rfl) ?_
   refine r_d rfl rfl rfl (s_fieldRef rfl fl_snapshot_writer_1 rfl) ?_
   refine r_w01 rfl rfl rfl (t_store _ rfl rfl rfl (Wk.refl _) (pf0 _) rfl rfl (by exact ty_bool) rfl rfl rfl) ?_
   refine r_end ?_
   refine g_run (by kernel_rfl) [(0, .d), (1, .d), (2, .d), (3, .d), (4, .r), (5, .d), (6, .d), (7, .d), (8, .d), (9, .w)] rfl ?_
   refine r_d rfl rfl rfl (s_move rfl rfl) ?_
   refine r_d rfl rfl rfl (s_move rfl rfl) ?_
   refine r_d rfl rfl rfl (s_nilCheckR rfl rfl) ?_
   refine r_d rfl rfl rfl (s_fieldRef rfl fl_snapshot_writer_0 rfl) ?_
   refine r_r rfl rfl rfl (t_loadRef rfl rfl (.head _) rfl rfl (by exact ty_L_uint8) rfl) ?_
   refine r_d rfl rfl rfl (s_move rfl rfl) ?_
   obtain ⟨r_2, hr_2, hr⟩ := bindS hr
   refine r_d rfl rfl rfl (s_callD rfl cl_codec_PutInt (.cons rfl (Wk.refl _) (.cons rfl (Wk.refl _) .nil)) (lx_codec_PutInt _ _ _ hr_2)) ?_
   refine r_d rfl rfl rfl (s_nilCheckR rfl rfl) ?_
   refine r_d rfl rfl rfl (s_fieldRef rfl fl_snapshot_writer_0 rfl) ?_
   refine r_w01 rfl rfl rfl (t_store _ rfl rfl rfl (Wk.refl _) (pf0 _) rfl rfl (by exact ty_L_uint8) rfl rfl rfl) ?_
   refine r_end ?_
   obtain rfl := Option.some.inj hr
   refine g_end Tryz.func34 _ .nil ?_
   exact ⟨rfl, rfl⟩
  ·
   refine r_d rfl rfl rfl (s_move rfl rfl) ?_
   refine r_d rfl rfl rfl (s_move rfl rfl) ?_
   refine r_d rfl rfl rfl (s_cmp rfl rfl rfl rfl) ?_
   refine r_d rfl rfl rfl (s_pickF rfl rfl rfl) ?_
   refine r_d rfl rfl rfl (s_move rfl rfl) ?_
   refine r_sB 18 rfl hr (fun h18_2 hr => ?_) (fun h18_2 hr => ?_)
   ·
    refine r_skip rfl rfl rfl ?_
    refine r_skip rfl rfl rfl ?_
    refine r_skip rfl rfl rfl ?_
    refine r_d rfl rfl rfl (s_pickT rfl rfl rfl) ?_
    refine r_d rfl rfl rfl (s_nilCheckR rfl rfl) ?_
    refine r_d rfl rfl rfl (s_fieldRef rfl fl_snapshot_writer_1 rfl) ?_
    refine r_w01 rfl rfl rfl (t_store _ rfl rfl rfl (Wk.refl _) (pf0 _) rfl rfl (by exact ty_bool) rfl rfl rfl) ?_
    refine r_end ?_
    refine g_run (by kernel_rfl) [(0, .d), (1, .d), (2, .d), (3, .d), (4, .r), (5, .d), (6, .d), (7, .d), (8, .d), (9, .w)] rfl ?_
    refine r_d rfl rfl rfl (s_move rfl rfl) ?_
    refine r_d rfl rfl rfl (s_move rfl rfl) ?_
    refine r_d rfl rfl rfl (s_nilCheckR rfl rfl) ?_
    refine r_d rfl rfl rfl (s_fieldRef rfl fl_snapshot_writer_0 rfl) ?_
    refine r_r rfl rfl rfl (t_loadRef rfl rfl (.head _) rfl rfl (by exact ty_L_uint8) rfl) ?_
    refine r_d rfl rfl rfl (s_move rfl rfl) ?_
    obtain ⟨r_4, hr_4, hr⟩ := bindS hr
    refine r_d rfl rfl rfl (s_callD rfl cl_codec_PutInt (.cons rfl (Wk.refl _) (.cons rfl (Wk.refl _) .nil)) (lx_codec_PutInt _ _ _ hr_4)) ?_
    refine r_d rfl rfl rfl (s_nilCheckR rfl rfl) ?_
    refine r_d rfl rfl rfl (s_fieldRef rfl fl_snapshot_writer_0 rfl) ?_
    refine r_w01 rfl rfl rfl (t_store _ rfl rfl rfl (Wk.refl _) (pf0 _) rfl rfl (by exact ty_L_uint8) rfl rfl rfl) ?_
    refine r_end ?_
    obtain rfl := Option.some.inj hr
    refine g_end Tryz.func34 _ .nil ?_
    exact ⟨rfl, rfl⟩
   ·
    refine r_d rfl rfl rfl (s_move rfl rfl) ?_
    refine r_d rfl rfl rfl (s_move rfl rfl) ?_
    refine r_d rfl rfl rfl (s_cmp rfl rfl rfl rfl) ?_
    refine r_d rfl rfl rfl (s_pickF rfl rfl rfl) ?_
    refine r_d rfl rfl rfl (s_nilCheckR rfl rfl) ?_
    refine r_d rfl rfl rfl (s_fieldRef rfl fl_snapshot_writer_1 rfl) ?_
    refine r_w01 rfl rfl rfl (t_store _ rfl rfl rfl (Wk.refl _) (pf0 _) rfl rfl (by exact ty_bool) rfl rfl rfl) ?_
    refine r_end ?_
    refine g_run (by kernel_rfl) [(0, .d), (1, .d), (2, .d), (3, .d), (4, .r), (5, .d), (6, .d), (7, .d), (8, .d), (9, .w)] rfl ?_
    refine r_d rfl rfl rfl (s_move rfl rfl) ?_
    refine r_d rfl rfl rfl (s_move rfl rfl) ?_
    refine r_d rfl rfl rfl (s_nilCheckR rfl rfl) ?_
    refine r_d rfl rfl rfl (s_fieldRef rfl fl_snapshot_writer_0 rfl) ?_
    refine r_r rfl rfl rfl (t_loadRef rfl rfl (.head _) rfl rfl (by exact ty_L_uint8) rfl) ?_
    refine r_d rfl rfl rfl (s_move rfl rfl) ?_
    obtain ⟨r_5, hr_5, hr⟩ := bindS hr
    refine r_d rfl rfl rfl (s_callD rfl cl_codec_PutInt (.cons rfl (Wk.refl _) (.cons rfl (Wk.refl _) .nil)) (lx_codec_PutInt _ _ _ hr_5)) ?_
    refine r_d rfl rfl rfl (s_nilCheckR rfl rfl) ?_
    refine r_d rfl rfl rfl (s_fieldRef rfl fl_snapshot_writer_0 rfl) ?_
    refine r_w01 rfl rfl rfl (t_store _ rfl rfl rfl (Wk.refl _) (pf0 _) rfl rfl (by exact ty_L_uint8) rfl rfl rfl) ?_
    refine r_end ?_
    obtain rfl := Option.some.inj hr
    refine g_end Tryz.func34 _ .nil ?_
    exact ⟨rfl, rfl⟩

noncomputable def lf_Psnapshot_writer_text_s1 (s_a1 : ByteArray) (c_0 : S_snapshot_writer) : Option (S_snapshot_writer) :=
  (bif c_0.f1_bad then
  ((x_cPutText c_0.f0_b s_a1).bind fun r_2 =>
  some ((⟨r_2, true⟩ : S_snapshot_writer)))
  else
  ((x_cPutText c_0.f0_b s_a1).bind fun r_3 =>
  some ((⟨r_3, (decide ((s_a1.size : Int) > (40 : Int)))⟩ : S_snapshot_writer))))

set_option maxHeartbeats 1000000 in
theorem lg_Psnapshot_writer_text_s1 (s_a1 : ByteArray) (c_0 : S_snapshot_writer) (b_o0 : Nat) (res : S_snapshot_writer) (hr : lf_Psnapshot_writer_text_s1 s_a1 c_0 = some res) : Spec Tryz.prog 37 [.ref b_o0 0 [], .str s_a1] [.cell b_o0 (enc_S_snapshot_writer c_0)] (fun d σ => d = .tup [] ∧ σ = [.cell b_o0 (enc_S_snapshot_writer res)]) := by
  unfold lf_Psnapshot_writer_text_s1 at hr
  refine spec_env [(0, .ref b_o0 0 []), (1, .str s_a1)] Tryz.func37 rfl rfl fun K hK => ?_
  refine g_seq ?_
  refine g_run (by kernel_rfl) [(0, .d), (1, .d), (2, .d), (3, .d), (4, .r), (5, .d), (6, .d), (7, .d), (8, .d), (9, .d), (10, .d), (11, .d), (12, .w)] rfl ?_
  refine r_d rfl rfl rfl (s_move rfl rfl) ?_
  refine r_d rfl rfl rfl (s_move rfl rfl) ?_
  refine r_d rfl rfl rfl (s_nilCheckR rfl rfl) ?_
  refine r_d rfl rfl rfl (s_fieldRef rfl fl_snapshot_writer_1 rfl) ?_
  refine r_r rfl rfl rfl (t_loadRef rfl rfl (.head _) rfl rfl (by exact ty_bool) rfl) ?_
  refine r_d rfl rfl rfl (s_move rfl rfl) ?_
  refine r_sB 9 rfl hr (fun h9_0 hr => ?_) (fun h9_0 hr => ?_)
  ·
   refine r_skip rfl rfl rfl ?_
   refine r_skip rfl rfl rfl ?_
   refine r_skip rfl rfl rfl ?_
   refine r_d rfl rfl rfl (s_pickT rfl rfl rfl) ?_
   refine r_d rfl rfl rfl (s_nilCheckR rfl rfl) ?_
   refine r_d rfl rfl rfl (s_fieldRef rfl fl_snapshot_writer_1 rfl) ?_
   refine r_w01 rfl rfl rfl (t_store _ rfl rfl rfl (Wk.refl _) (pf0 _) rfl rfl (by exact ty_bool) rfl rfl rfl) ?_
   refine r_end ?_
   refine g_run (by kernel_rfl) [(0, .d), (1, .d), (2, .d), (3, .d), (4, .r), (5, .d), (6, .d), (7, .d), (8, .d), (9, .w)] rfl ?_
   refine r_d rfl rfl rfl (s_move rfl rfl) ?_
   refine r_d rfl rfl rfl (s_move rfl rfl) ?_
   refine r_d rfl rfl rfl (s_nilCheckR rfl rfl) ?_
   refine r_d rfl rfl rfl (s_fieldRef rfl fl_snapshot_writer_0 rfl) ?_
   refine r_r rfl rfl rfl (t_loadRef rfl rfl (.head _) rfl rfl (by exact ty_L_uint8) rfl) ?_
   refine r_d rfl rfl rfl (s_move rfl rfl) ?_
   obtain ⟨r_2, hr_2, hr⟩ := bindS hr
   refine r_d rfl rfl rfl (s_callD rfl cl_codec_PutText (.cons rfl (Wk.refl _) (.cons rfl (Wk.refl _) .nil)) (lx_codec_PutText _ _ _ hr_2)) ?_
   refine r_d rfl rfl rfl (s_nilCheckR rfl rfl) ?_
   refine r_d rfl rfl rfl (s_fieldRef rfl fl_snapshot_writer_0 rfl) ?_
   refine r_w01 rfl rfl rfl (t_store _ rfl rfl rfl (Wk.refl _) (pf0 _) rfl rfl (by exact ty_L_uint8) rfl rfl rfl) ?_
   refine r_end ?_
   obtain rfl := Option.some.inj hr
   refine g_end Tryz.func37 _ .nil ?_
   exact ⟨rfl, rfl⟩
  ·
   refine r_d rfl rfl rfl (s_move rfl rfl) ?_
   refine r_d rfl rfl rfl (s_lenS rfl Tryz.underlying9 rfl) ?_
   refine r_d rfl rfl rfl (s_cmp rfl rfl rfl rfl) ?_
   refine r_d rfl rfl rfl (s_pickF rfl rfl rfl) ?_
   refine r_d rfl rfl rfl (s_nilCheckR rfl rfl) ?_
   refine r_d rfl rfl rfl (s_fieldRef rfl fl_snapshot_writer_1 rfl) ?_
   refine r_w01 rfl rfl rfl (t_store _ rfl rfl rfl (Wk.refl _) (pf0 _) rfl rfl (by exact ty_bool) rfl rfl rfl) ?_
   refine r_end ?_
   refine g_run (by kernel_rfl) [(0, .d), (1, .d), (2, .d), (3, .d), (4, .r), (5, .d), (6, .d), (7, .d), (8, .d), (9, .w)] rfl ?_
   refine r_d rfl rfl rfl (s_move rfl rfl) ?_
   refine r_d rfl rfl rfl (s_move rfl rfl) ?_
   refine r_d rfl rfl rfl (s_nilCheckR rfl rfl) ?_
   refine r_d rfl rfl rfl (s_fieldRef rfl fl_snapshot_writer_0 rfl) ?_
   refine r_r rfl rfl rfl (t_loadRef rfl rfl (.head _) rfl rfl (by exact ty_L_uint8) rfl) ?_
   refine r_d rfl rfl rfl (s_move rfl rfl) ?_
   obtain ⟨r_3, hr_3, hr⟩ := bindS hr
   refine r_d rfl rfl rfl (s_callD rfl cl_codec_PutText (.cons rfl (Wk.refl _) (.cons rfl (Wk.refl _) .nil)) (lx_codec_PutText _ _ _ hr_3)) ?_
   refine r_d rfl rfl rfl (s_nilCheckR rfl rfl) ?_
   refine r_d rfl rfl rfl (s_fieldRef rfl fl_snapshot_writer_0 rfl) ?_
   refine r_w01 rfl rfl rfl (t_store _ rfl rfl rfl (Wk.refl _) (pf0 _) rfl rfl (by exact ty_L_uint8) rfl rfl rfl) ?_
   refine r_end ?_
   obtain rfl := Option.some.inj hr
   refine g_end Tryz.func37 _ .nil ?_
   exact ⟨rfl, rfl⟩

noncomputable def lf_snapshot_Program_1_s1 (d_a0 : S_api_Decl) (c_0 : S_snapshot_writer) : Option (S_snapshot_writer) :=
  ((lf_Psnapshot_writer_text_s1 d_a0.f0_Name c_0).bind fun r_1 =>
  ((lf_Psnapshot_writer_number_s1 d_a0.f1_Arity 0 6 r_1).bind fun r_2 =>
  some (r_2)))

set_option maxHeartbeats 1000000 in
theorem lg_snapshot_Program_1_s1 (d_a0 : S_api_Decl) (c_0 : S_snapshot_writer) (b_o0 : Nat) (res : S_snapshot_writer) (hr : lf_snapshot_Program_1_s1 d_a0 c_0 = some res) : Spec Tryz.prog 36 [enc_S_api_Decl d_a0, .ptr (.ref b_o0 0 [])] [.cell b_o0 (enc_S_snapshot_writer c_0)] (fun d σ => d = .tup [] ∧ σ = [.cell b_o0 (enc_S_snapshot_writer res)]) := by
  unfold lf_snapshot_Program_1_s1 at hr
  refine spec_env [(0, enc_S_api_Decl d_a0), (1, .ptr (.ref b_o0 0 []))] Tryz.func36 rfl rfl fun K hK => ?_
  refine g_seq ?_
  refine g_run (by kernel_rfl) [(0, .d)] rfl ?_
  refine r_d rfl rfl rfl (s_box rfl rfl rfl) ?_
  refine r_end ?_
  refine g_seq ?_
  refine g_run (by kernel_rfl) [(0, .d), (1, .d), (2, .d), (3, .w)] rfl ?_
  refine r_d rfl rfl rfl (s_load rfl rfl (by exact ty_P_snapshot_writer) rfl) ?_
  refine r_d rfl rfl rfl (s_fieldAddr rfl fl_api_Decl_0 rfl rfl rfl rfl) ?_
  refine r_d rfl rfl rfl (s_load rfl rfl (by exact ty_string) rfl) ?_
  obtain ⟨r_1, hr_1, hr⟩ := bindS hr
  refine r_w rfl rfl rfl (s_call _ rfl cl_Psnapshot_writer_text (.cons rfl (Wk.refl _) (.cons rfl (Wk.refl _) .nil)) (by exact (pf0 _)) (lg_Psnapshot_writer_text_s1 _ _ _ _ hr_1)) ?_
  rintro _ _ ⟨_, ⟨rfl, rfl⟩, rfl⟩
  refine r_st ((.cell b_o0 (enc_S_snapshot_writer r_1)) :: _) rfl ?_
  refine r_end ?_
  refine g_run (by kernel_rfl) [(0, .d), (1, .d), (2, .d), (3, .w)] rfl ?_
  refine r_d rfl rfl rfl (s_load rfl rfl (by exact ty_P_snapshot_writer) rfl) ?_
  refine r_d rfl rfl rfl (s_fieldAddr rfl fl_api_Decl_1 rfl rfl rfl rfl) ?_
  refine r_d rfl rfl rfl (s_load rfl rfl (by exact ty_int) rfl) ?_
  obtain ⟨r_2, hr_2, hr⟩ := bindS hr
  refine r_w rfl rfl rfl (s_call _ rfl cl_Psnapshot_writer_number (.cons rfl (Wk.refl _) (.cons rfl (Wk.refl _) (.cons rfl (Wk.refl _) (.cons rfl (Wk.refl _) .nil)))) (by exact (pf0 _)) (lg_Psnapshot_writer_number_s1 _ _ _ _ _ _ hr_2)) ?_
  rintro _ _ ⟨_, ⟨rfl, rfl⟩, rfl⟩
  refine r_st ((.cell b_o0 (enc_S_snapshot_writer r_2)) :: _) rfl ?_
  refine r_end ?_
  obtain rfl := Option.some.inj hr
  refine g_end Tryz.func36 _ .nil ?_
  exact ⟨rfl, rfl⟩

noncomputable def lf_snapshot_list_s1_L0 (k : (S_snapshot_writer) → Option (S_snapshot_writer)) : List S_api_Decl → S_snapshot_writer → Option (S_snapshot_writer)
  | [], w_4 =>
  (k w_4)
  | q_6 :: rest, w_4 =>
  ((lf_snapshot_Program_1_s1 q_6 w_4).bind fun r_8 =>
  (lf_snapshot_list_s1_L0 k rest r_8))
noncomputable def lf_snapshot_list_s1 (l_a1 : (List S_api_Decl)) (most_a2 : Int) (c_0 : S_snapshot_writer) : Option (S_snapshot_writer) :=
  ((lf_Psnapshot_writer_number_s1 (l_a1.length : Int) 0 most_a2 c_0).bind fun r_1 =>
  (bif r_1.f1_bad then
  some (r_1)
  else
  (lf_snapshot_list_s1_L0 (fun w_5 =>
  some (w_5)) l_a1 r_1)))

set_option maxHeartbeats 1000000 in
theorem lg_snapshot_list_s1 (l_a1 : (List S_api_Decl)) (most_a2 : Int) (c_0 : S_snapshot_writer) (b_o0 : Nat) (res : S_snapshot_writer) (hr : lf_snapshot_list_s1 l_a1 most_a2 c_0 = some res) : Spec Tryz.prog 35 [.ref b_o0 0 [], .lst (l_a1.map enc_S_api_Decl), .int .i64 most_a2, .clo (.func 36) [] [.ptr (.ref b_o0 0 [])]] [.cell b_o0 (enc_S_snapshot_writer c_0)] (fun d σ => d = .tup [] ∧ σ = [.cell b_o0 (enc_S_snapshot_writer res)]) := by
  unfold lf_snapshot_list_s1 at hr
  refine spec_env [(0, .ref b_o0 0 []), (1, .lst (l_a1.map enc_S_api_Decl)), (2, .int .i64 most_a2), (3, .clo (.func 36) [] [.ptr (.ref b_o0 0 [])])] Tryz.func35 rfl rfl fun K hK => ?_
  refine g_seq ?_
  refine g_run (by kernel_rfl) [(0, .d), (1, .d), (2, .d), (3, .d), (4, .w)] rfl ?_
  refine r_d rfl rfl rfl (s_move rfl rfl) ?_
  refine r_d rfl rfl rfl (s_move rfl rfl) ?_
  refine r_d rfl rfl rfl (m_len (f := enc_S_api_Decl) l_a1 rfl el_L_api_Decl rfl (asl rfl)) ?_
  refine r_d rfl rfl rfl (s_move rfl rfl) ?_
  obtain ⟨r_1, hr_1, hr⟩ := bindS hr
  refine r_w rfl rfl rfl (s_call _ rfl cl_Psnapshot_writer_number (.cons rfl (Wk.refl _) (.cons rfl (Wk.refl _) (.cons rfl (Wk.refl _) (.cons rfl (Wk.refl _) .nil)))) (by exact (pf0 _)) (lg_Psnapshot_writer_number_s1 _ _ _ _ _ _ hr_1)) ?_
  rintro _ _ ⟨_, ⟨rfl, rfl⟩, rfl⟩
  refine r_st ((.cell b_o0 (enc_S_snapshot_writer r_1)) :: _) rfl ?_
  refine r_end ?_
  refine g_seq ?_
  refine g_seq ?_
  refine g_run (by kernel_rfl) [(0, .d), (1, .d), (2, .d), (3, .r)] rfl ?_
  refine r_d rfl rfl rfl (s_move rfl rfl) ?_
  refine r_d rfl rfl rfl (s_nilCheckR rfl rfl) ?_
  refine r_d rfl rfl rfl (s_fieldRef rfl fl_snapshot_writer_1 rfl) ?_
  refine r_r rfl rfl rfl (t_loadRef rfl rfl (.head _) rfl rfl (by exact ty_bool) rfl) ?_
  refine r_end ?_
  refine g_sB 18 rfl hr (fun h18_1 hr => ?_) (fun h18_1 hr => ?_)
  ·
   refine g_condT rfl ?_
   obtain rfl := Option.some.inj hr
   refine g_ret Tryz.func35 _ .nil ?_
   exact ⟨rfl, rfl⟩
  ·
   refine g_condF rfl ?_
   refine g_skip ?_
   refine g_seq ?_
   refine g_run (by kernel_rfl) [(0, .d), (1, .d), (2, .d)] rfl ?_
   refine r_d rfl rfl rfl (s_move rfl rfl) ?_
   refine r_d rfl rfl rfl (m_len (f := enc_S_api_Decl) l_a1 rfl el_L_api_Decl rfl (asl rfl)) ?_
   refine r_d rfl rfl rfl (s_move rfl rfl) ?_
   refine r_end ?_
   obtain ⟨kk0, hkk0, hr⟩ := exK (fun k => lf_snapshot_list_s1_L0 k l_a1 r_1) hr
   refine g_len 1 rfl (asl rfl) fun hla0 => ?_
   simp only [List.length_map] at hla0
   refine g_blockJ (fun env σ => ∃ (w_5 : S_snapshot_writer), env = [] ∧ σ = [.cell b_o0 (enc_S_snapshot_writer w_5)] ∧ kk0 w_5 = some res) ?_ (fun HK0 => ?_)
   ·
    rintro _ _ ⟨w_5, rfl, rfl, hr⟩
    rw [hkk0] at hr
    obtain rfl := Option.some.inj hr
    refine g_end Tryz.func35 _ .nil ?_
    exact ⟨rfl, rfl⟩
   ·
    refine g_sub [(3, .clo (.func 36) [] [.ptr (.ref b_o0 0 [])]), (19, .lst (l_a1.map enc_S_api_Decl)), (20, .int .i64 (l_a1.length : Int)), (21, .int .i64 ((0 : Nat) : Int))] (Sub.cons' rfl (Sub.cons' rfl (Sub.cons' rfl (Sub.cons' rfl (Sub.nil _))))) ?_
    refine g_loop (fun n env σ => ∃ (i_3 : Nat) (w_4 : S_snapshot_writer), (n = l_a1.length - i_3) ∧ (env = [(3, .clo (.func 36) [] [.ptr (.ref b_o0 0 [])]), (19, .lst (l_a1.map enc_S_api_Decl)), (20, .int .i64 (l_a1.length : Int)), (21, .int .i64 (i_3 : Int))]) ∧ (σ = [.cell b_o0 (enc_S_snapshot_writer w_4)]) ∧ (i_3 ≤ l_a1.length) ∧ (lf_snapshot_list_s1_L0 kk0 (l_a1.drop i_3) w_4 = some res)) _ ⟨0, r_1, rfl, rfl, rfl, Nat.zero_le _, hr⟩ ?_
    rintro n _ _ ⟨i_3, w_4, rfl, rfl, rfl, hi0, hr⟩ IH0
    rcases listStep l_a1 i_3 hi0 with ⟨ht0, hd0, he0⟩ | ⟨q_6, ht0, hd0, hq0, hlt0⟩
    ·
     rw [hd0, lf_snapshot_list_s1_L0] at hr
     refine g_seq ?_
     refine g_run (by kernel_rfl) [(0, .d)] rfl ?_
     refine r_d rfl rfl rfl (s_cmp rfl rfl rfl rfl) ?_
     refine r_end ?_
     refine g_seq ?_
     refine g_known 22 false rfl ht0 ?_
     refine g_condF rfl ?_
     refine g_exit rfl ?_
     refine g_sub [] (Sub.nil _) ?_
     exact HK0 _ _ ⟨w_4, rfl, rfl, hr⟩
    ·
     rw [hd0, lf_snapshot_list_s1_L0] at hr
     refine g_seq ?_
     refine g_run (by kernel_rfl) [(0, .d)] rfl ?_
     refine r_d rfl rfl rfl (s_cmp rfl rfl rfl rfl) ?_
     refine r_end ?_
     refine g_seq ?_
     refine g_known 22 true rfl ht0 ?_
     refine g_condT rfl ?_
     refine g_skip ?_
     refine g_seq ?_
     refine g_block ?_
     refine g_seq ?_
     refine g_run (by kernel_rfl) [(0, .d), (1, .d), (2, .w), (3, .w)] rfl ?_
     refine r_d rfl rfl rfl (m_index (f := enc_S_api_Decl) l_a1 rfl el_L_api_Decl rfl (asl rfl) rfl hq0 sz_S_api_Decl rfl) ?_
     refine r_d rfl rfl rfl (s_load rfl rfl (by exact ty_api_Decl) (sz_S_api_Decl _)) ?_
     refine r_w rfl rfl rfl (s_alloc rfl zv_api_Decl) ?_
     rintro _ _ ⟨b9_6, rfl, rfl⟩
     refine r_w01 rfl rfl rfl (t_store0 _ rfl rfl rfl (Wk.refl _) (pf0 _) (by exact ty_api_Decl) (sz_S_api_Decl _) rfl rfl) ?_
     refine r_end ?_
     refine g_freeze 9 b9_6 rfl (pf0 _) ?_
     refine g_run (by kernel_rfl) [(0, .d), (1, .d), (2, .w)] rfl ?_
     refine r_d rfl rfl rfl (s_move rfl rfl) ?_
     refine r_d rfl rfl rfl (s_load rfl rfl (by exact ty_api_Decl) (sz_S_api_Decl _)) ?_
     obtain ⟨r_8, hr_8, hr⟩ := bindS hr
     refine r_w rfl rfl rfl (s_callV _ rfl rfl cl_snapshot_Program_1 (.cons rfl (Wk.refl _) .nil) rfl (by exact (pf0 _)) (lg_snapshot_Program_1_s1 _ _ _ _ hr_8)) ?_
     rintro _ _ ⟨_, ⟨rfl, rfl⟩, rfl⟩
     refine r_st ((.cell b_o0 (enc_S_snapshot_writer r_8)) :: _) rfl ?_
     refine r_end ?_
     refine g_inBlock ?_
     refine g_run (by kernel_rfl) [(0, .d), (1, .d)] rfl ?_
     refine r_d rfl rfl rfl (s_ar (r := ((i_3 + 1 : Nat) : Int)) rfl rfl rfl (by simp [iar]) (by omega)) ?_
     refine r_d rfl rfl rfl (s_move rfl rfl) ?_
     refine r_end ?_
     refine g_sub [(3, .clo (.func 36) [] [.ptr (.ref b_o0 0 [])]), (19, .lst (l_a1.map enc_S_api_Decl)), (20, .int .i64 (l_a1.length : Int)), (21, .int .i64 ((i_3 + 1 : Nat) : Int))] (Sub.cons' rfl (Sub.cons' rfl (Sub.cons' rfl (Sub.cons' rfl (Sub.nil _))))) ?_
     exact IH0 _ _ _ (by omega) ⟨(i_3 + 1), r_8, rfl, rfl, rfl, (by omega), hr⟩

noncomputable def lfo_Psnapshot_writer_term_s1 (rec : (List T) → Int → S_snapshot_writer → Option (S_snapshot_writer)) (t_a1 : T) (c_0 : S_snapshot_writer) : Option (S_snapshot_writer) :=
  ((lf_Psnapshot_writer_number_s1 t_a1.k 0 2 c_0).bind fun r_1 =>
  (bif (t_a1.k == (0 : Int)) then
  ((lf_Psnapshot_writer_number_s1 t_a1.i (-2147483648) 2147483648 r_1).bind fun r_3 =>
  some (r_3))
  else
  (bif (t_a1.k == (1 : Int)) then
  ((lf_Psnapshot_writer_number_s1 t_a1.i 0 1048576 r_1).bind fun r_5 =>
  some (r_5))
  else
  ((lf_Psnapshot_writer_text_s1 t_a1.s r_1).bind fun r_6 =>
  ((rec t_a1.ar 6 r_6).bind fun r_7 =>
  some (r_7))))))

set_option maxHeartbeats 1000000 in
theorem lgo_Psnapshot_writer_term_s1 (rec : (List T) → Int → S_snapshot_writer → Option (S_snapshot_writer)) (IHR : ∀ (l_a1 : (List T)) (most_a2 : Int) (c_0 : S_snapshot_writer) (b_o0 : Nat) (res : S_snapshot_writer), rec l_a1 most_a2 c_0 = some res → Spec Tryz.prog 154 [.ref b_o0 0 [], .lst (l_a1.map encT), .int .i64 most_a2, .clo (.func 66) [.ref b_o0 0 []] []] [.cell b_o0 (enc_S_snapshot_writer c_0)] (fun d σ => d = .tup [] ∧ σ = [.cell b_o0 (enc_S_snapshot_writer res)])) (t_a1 : T) (c_0 : S_snapshot_writer) (b_o0 : Nat) (res : S_snapshot_writer) (hr : lfo_Psnapshot_writer_term_s1 rec t_a1 c_0 = some res) : Spec Tryz.prog 66 [.ref b_o0 0 [], encT t_a1] [.cell b_o0 (enc_S_snapshot_writer c_0)] (fun d σ => d = .tup [] ∧ σ = [.cell b_o0 (enc_S_snapshot_writer res)]) := by
  unfold lfo_Psnapshot_writer_term_s1 at hr
  refine spec_env [(0, .ref b_o0 0 []), (1, encT t_a1)] Tryz.func66 rfl rfl fun K hK => ?_
  refine g_seq ?_
  refine g_run (by kernel_rfl) [(0, .d)] rfl ?_
  refine r_d rfl rfl rfl (s_box rfl rfl rfl) ?_
  refine r_end ?_
  refine g_seq ?_
  refine g_run (by kernel_rfl) [(0, .d), (1, .d), (2, .d), (3, .w)] rfl ?_
  refine r_d rfl rfl rfl (s_move rfl rfl) ?_
  refine r_d rfl rfl rfl (s_fieldAddr rfl fl_api_Term_0 rfl (fsT_get0 _) (fsT_off0 _) rfl) ?_
  refine r_d rfl rfl rfl (s_load rfl rfl (by exact ty_int) rfl) ?_
  obtain ⟨r_1, hr_1, hr⟩ := bindS hr
  refine r_w rfl rfl rfl (s_call _ rfl cl_Psnapshot_writer_number (.cons rfl (Wk.refl _) (.cons rfl (Wk.refl _) (.cons rfl (Wk.refl _) (.cons rfl (Wk.refl _) .nil)))) (by exact (pf0 _)) (lg_Psnapshot_writer_number_s1 _ _ _ _ _ _ hr_1)) ?_
  rintro _ _ ⟨_, ⟨rfl, rfl⟩, rfl⟩
  refine r_st ((.cell b_o0 (enc_S_snapshot_writer r_1)) :: _) rfl ?_
  refine r_end ?_
  refine g_seq ?_
  refine g_run (by kernel_rfl) [(0, .d), (1, .d)] rfl ?_
  refine r_d rfl rfl rfl (s_fieldAddr rfl fl_api_Term_0 rfl (fsT_get0 _) (fsT_off0 _) rfl) ?_
  refine r_d rfl rfl rfl (s_load rfl rfl (by exact ty_int) rfl) ?_
  refine r_end ?_
  refine g_block ?_
  refine g_seq ?_
  refine g_run (by kernel_rfl) [(0, .d), (1, .d)] rfl ?_
  refine r_d rfl rfl rfl (s_cmp rfl rfl rfl rfl) ?_
  refine r_d rfl rfl rfl (s_assign rfl rfl) ?_
  refine r_end ?_
  refine g_sB 20 rfl hr (fun h20_1 hr => ?_) (fun h20_1 hr => ?_)
  ·
   refine g_condT rfl ?_
   refine g_run (by kernel_rfl) [(0, .d), (1, .d), (2, .d), (3, .w)] rfl ?_
   refine r_d rfl rfl rfl (s_move rfl rfl) ?_
   refine r_d rfl rfl rfl (s_fieldAddr rfl fl_api_Term_1 rfl (fsT_get1 _) (fsT_off1 _) rfl) ?_
   refine r_d rfl rfl rfl (s_load rfl rfl (by exact ty_int) rfl) ?_
   obtain ⟨r_3, hr_3, hr⟩ := bindS hr
   refine r_w rfl rfl rfl (s_call _ rfl cl_Psnapshot_writer_number (.cons rfl (Wk.refl _) (.cons rfl (Wk.refl _) (.cons rfl (Wk.refl _) (.cons rfl (Wk.refl _) .nil)))) (by exact (pf0 _)) (lg_Psnapshot_writer_number_s1 _ _ _ _ _ _ hr_3)) ?_
   rintro _ _ ⟨_, ⟨rfl, rfl⟩, rfl⟩
   refine r_st ((.cell b_o0 (enc_S_snapshot_writer r_3)) :: _) rfl ?_
   refine r_end ?_
   refine g_inBlock ?_
   obtain rfl := Option.some.inj hr
   refine g_end Tryz.func66 _ .nil ?_
   exact ⟨rfl, rfl⟩
  ·
   refine g_condF rfl ?_
   refine g_seq ?_
   refine g_run (by kernel_rfl) [(0, .d), (1, .d)] rfl ?_
   refine r_d rfl rfl rfl (s_cmp rfl rfl rfl rfl) ?_
   refine r_d rfl rfl rfl (s_assign rfl rfl) ?_
   refine r_end ?_
   refine g_sB 26 rfl hr (fun h26_3 hr => ?_) (fun h26_3 hr => ?_)
   ·
    refine g_condT rfl ?_
    refine g_run (by kernel_rfl) [(0, .d), (1, .d), (2, .d), (3, .w)] rfl ?_
    refine r_d rfl rfl rfl (s_move rfl rfl) ?_
    refine r_d rfl rfl rfl (s_fieldAddr rfl fl_api_Term_1 rfl (fsT_get1 _) (fsT_off1 _) rfl) ?_
    refine r_d rfl rfl rfl (s_load rfl rfl (by exact ty_int) rfl) ?_
    obtain ⟨r_5, hr_5, hr⟩ := bindS hr
    refine r_w rfl rfl rfl (s_call _ rfl cl_Psnapshot_writer_number (.cons rfl (Wk.refl _) (.cons rfl (Wk.refl _) (.cons rfl (Wk.refl _) (.cons rfl (Wk.refl _) .nil)))) (by exact (pf0 _)) (lg_Psnapshot_writer_number_s1 _ _ _ _ _ _ hr_5)) ?_
    rintro _ _ ⟨_, ⟨rfl, rfl⟩, rfl⟩
    refine r_st ((.cell b_o0 (enc_S_snapshot_writer r_5)) :: _) rfl ?_
    refine r_end ?_
    refine g_inBlock ?_
    obtain rfl := Option.some.inj hr
    refine g_end Tryz.func66 _ .nil ?_
    exact ⟨rfl, rfl⟩
   ·
    refine g_condF rfl ?_
    refine g_seq ?_
    refine g_run (by kernel_rfl) [(0, .d), (1, .d), (2, .d), (3, .w)] rfl ?_
    refine r_d rfl rfl rfl (s_move rfl rfl) ?_
    refine r_d rfl rfl rfl (s_fieldAddr rfl fl_api_Term_2 rfl (fsT_get2 _) (fsT_off2 _) rfl) ?_
    refine r_d rfl rfl rfl (s_load rfl rfl (by exact ty_string) rfl) ?_
    obtain ⟨r_6, hr_6, hr⟩ := bindS hr
    refine r_w rfl rfl rfl (s_call _ rfl cl_Psnapshot_writer_text (.cons rfl (Wk.refl _) (.cons rfl (Wk.refl _) .nil)) (by exact (pf0 _)) (lg_Psnapshot_writer_text_s1 _ _ _ _ hr_6)) ?_
    rintro _ _ ⟨_, ⟨rfl, rfl⟩, rfl⟩
    refine r_st ((.cell b_o0 (enc_S_snapshot_writer r_6)) :: _) rfl ?_
    refine r_end ?_
    refine g_run (by kernel_rfl) [(0, .d), (1, .d), (2, .d), (3, .d), (4, .d), (5, .w)] rfl ?_
    refine r_d rfl rfl rfl (s_move rfl rfl) ?_
    refine r_d rfl rfl rfl (s_fieldAddr rfl fl_api_Term_3 rfl (fsT_get3 _) (fsT_off3 _) rfl) ?_
    refine r_d rfl rfl rfl (s_load rfl rfl (by exact ty_L_api_Term) rfl) ?_
    refine r_d rfl rfl rfl (s_move rfl rfl) ?_
    refine r_d rfl rfl rfl (s_makeFunc rfl rfl rfl) ?_
    obtain ⟨r_7, hr_7, hr⟩ := bindS hr
    refine r_w rfl rfl rfl (s_call _ rfl cl_snapshot_list_api_Term (.cons rfl (Wk.refl _) (.cons rfl (Wk.refl _) (.cons rfl (Wk.refl _) (.cons rfl (Wk.refl _) .nil)))) (by exact (pf0 _)) (IHR _ _ _ _ _ hr_7)) ?_
    rintro _ _ ⟨_, ⟨rfl, rfl⟩, rfl⟩
    refine r_st ((.cell b_o0 (enc_S_snapshot_writer r_7)) :: _) rfl ?_
    refine r_end ?_
    refine g_inBlock ?_
    obtain rfl := Option.some.inj hr
    refine g_end Tryz.func66 _ .nil ?_
    exact ⟨rfl, rfl⟩

noncomputable def lf_snapshot_list_s4_L0 (k : (S_snapshot_writer) → Option (S_snapshot_writer)) (rec : (List T) → Int → S_snapshot_writer → Option (S_snapshot_writer)) : List T → S_snapshot_writer → Option (S_snapshot_writer)
  | [], w_4 =>
  (k w_4)
  | q_6 :: rest, w_4 =>
  ((lfo_Psnapshot_writer_term_s1 rec q_6 w_4).bind fun r_8 =>
  (lf_snapshot_list_s4_L0 k rec rest r_8))
noncomputable def lf_snapshot_list_s4 : Nat → (List T) → Int → S_snapshot_writer → Option (S_snapshot_writer)
  | 0, _, _, _ => none
  | fuel + 1, l_a1, most_a2, c_0 =>
    (fun (rec : (List T) → Int → S_snapshot_writer → Option (S_snapshot_writer)) =>
      ((lf_Psnapshot_writer_number_s1 (l_a1.length : Int) 0 most_a2 c_0).bind fun r_1 =>
      (bif r_1.f1_bad then
      some (r_1)
      else
      (lf_snapshot_list_s4_L0 (fun w_5 =>
      some (w_5)) rec l_a1 r_1)))) (lf_snapshot_list_s4 fuel)

set_option maxHeartbeats 1000000 in
theorem lgs_snapshot_list_s4 (fuel : Nat) (rec : (List T) → Int → S_snapshot_writer → Option (S_snapshot_writer)) (IHR : ∀ (l_a1 : (List T)) (most_a2 : Int) (c_0 : S_snapshot_writer) (b_o0 : Nat) (res : S_snapshot_writer), rec l_a1 most_a2 c_0 = some res → Spec Tryz.prog 154 [.ref b_o0 0 [], .lst (l_a1.map encT), .int .i64 most_a2, .clo (.func 66) [.ref b_o0 0 []] []] [.cell b_o0 (enc_S_snapshot_writer c_0)] (fun d σ => d = .tup [] ∧ σ = [.cell b_o0 (enc_S_snapshot_writer res)])) (l_a1 : (List T)) (most_a2 : Int) (c_0 : S_snapshot_writer) (b_o0 : Nat) (res : S_snapshot_writer)
    (hr : ((lf_Psnapshot_writer_number_s1 (l_a1.length : Int) 0 most_a2 c_0).bind fun r_1 =>
(bif r_1.f1_bad then
some (r_1)
else
(lf_snapshot_list_s4_L0 (fun w_5 =>
some (w_5)) rec l_a1 r_1))) = some res) : Spec Tryz.prog 154 [.ref b_o0 0 [], .lst (l_a1.map encT), .int .i64 most_a2, .clo (.func 66) [.ref b_o0 0 []] []] [.cell b_o0 (enc_S_snapshot_writer c_0)] (fun d σ => d = .tup [] ∧ σ = [.cell b_o0 (enc_S_snapshot_writer res)]) := by
  refine spec_env [(0, .ref b_o0 0 []), (1, .lst (l_a1.map encT)), (2, .int .i64 most_a2), (3, .clo (.func 66) [.ref b_o0 0 []] [])] Tryz.func154 rfl rfl fun K hK => ?_
  refine g_seq ?_
  refine g_run (by kernel_rfl) [(0, .d), (1, .d), (2, .d), (3, .d), (4, .w)] rfl ?_
  refine r_d rfl rfl rfl (s_move rfl rfl) ?_
  refine r_d rfl rfl rfl (s_move rfl rfl) ?_
  refine r_d rfl rfl rfl (m_len (f := encT) l_a1 rfl el_L_api_Term rfl (asl rfl)) ?_
  refine r_d rfl rfl rfl (s_move rfl rfl) ?_
  obtain ⟨r_1, hr_1, hr⟩ := bindS hr
  refine r_w rfl rfl rfl (s_call _ rfl cl_Psnapshot_writer_number (.cons rfl (Wk.refl _) (.cons rfl (Wk.refl _) (.cons rfl (Wk.refl _) (.cons rfl (Wk.refl _) .nil)))) (by exact (pf0 _)) (lg_Psnapshot_writer_number_s1 _ _ _ _ _ _ hr_1)) ?_
  rintro _ _ ⟨_, ⟨rfl, rfl⟩, rfl⟩
  refine r_st ((.cell b_o0 (enc_S_snapshot_writer r_1)) :: _) rfl ?_
  refine r_end ?_
  refine g_seq ?_
  refine g_seq ?_
  refine g_run (by kernel_rfl) [(0, .d), (1, .d), (2, .d), (3, .r)] rfl ?_
  refine r_d rfl rfl rfl (s_move rfl rfl) ?_
  refine r_d rfl rfl rfl (s_nilCheckR rfl rfl) ?_
  refine r_d rfl rfl rfl (s_fieldRef rfl fl_snapshot_writer_1 rfl) ?_
  refine r_r rfl rfl rfl (t_loadRef rfl rfl (.head _) rfl rfl (by exact ty_bool) rfl) ?_
  refine r_end ?_
  refine g_sB 18 rfl hr (fun h18_1 hr => ?_) (fun h18_1 hr => ?_)
  ·
   refine g_condT rfl ?_
   obtain rfl := Option.some.inj hr
   refine g_ret Tryz.func154 _ .nil ?_
   exact ⟨rfl, rfl⟩
  ·
   refine g_condF rfl ?_
   refine g_skip ?_
   refine g_seq ?_
   refine g_run (by kernel_rfl) [(0, .d), (1, .d), (2, .d)] rfl ?_
   refine r_d rfl rfl rfl (s_move rfl rfl) ?_
   refine r_d rfl rfl rfl (m_len (f := encT) l_a1 rfl el_L_api_Term rfl (asl rfl)) ?_
   refine r_d rfl rfl rfl (s_move rfl rfl) ?_
   refine r_end ?_
   obtain ⟨kk0, hkk0, hr⟩ := exK (fun k => lf_snapshot_list_s4_L0 k rec l_a1 r_1) hr
   refine g_len 1 rfl (asl rfl) fun hla0 => ?_
   simp only [List.length_map] at hla0
   refine g_blockJ (fun env σ => ∃ (w_5 : S_snapshot_writer), env = [] ∧ σ = [.cell b_o0 (enc_S_snapshot_writer w_5)] ∧ kk0 w_5 = some res) ?_ (fun HK0 => ?_)
   ·
    rintro _ _ ⟨w_5, rfl, rfl, hr⟩
    rw [hkk0] at hr
    obtain rfl := Option.some.inj hr
    refine g_end Tryz.func154 _ .nil ?_
    exact ⟨rfl, rfl⟩
   ·
    refine g_sub [(3, .clo (.func 66) [.ref b_o0 0 []] []), (19, .lst (l_a1.map encT)), (20, .int .i64 (l_a1.length : Int)), (21, .int .i64 ((0 : Nat) : Int))] (Sub.cons' rfl (Sub.cons' rfl (Sub.cons' rfl (Sub.cons' rfl (Sub.nil _))))) ?_
    refine g_loop (fun n env σ => ∃ (i_3 : Nat) (w_4 : S_snapshot_writer), (n = l_a1.length - i_3) ∧ (env = [(3, .clo (.func 66) [.ref b_o0 0 []] []), (19, .lst (l_a1.map encT)), (20, .int .i64 (l_a1.length : Int)), (21, .int .i64 (i_3 : Int))]) ∧ (σ = [.cell b_o0 (enc_S_snapshot_writer w_4)]) ∧ (i_3 ≤ l_a1.length) ∧ (lf_snapshot_list_s4_L0 kk0 rec (l_a1.drop i_3) w_4 = some res)) _ ⟨0, r_1, rfl, rfl, rfl, Nat.zero_le _, hr⟩ ?_
    rintro n _ _ ⟨i_3, w_4, rfl, rfl, rfl, hi0, hr⟩ IH0
    rcases listStep l_a1 i_3 hi0 with ⟨ht0, hd0, he0⟩ | ⟨q_6, ht0, hd0, hq0, hlt0⟩
    ·
     rw [hd0, lf_snapshot_list_s4_L0] at hr
     refine g_seq ?_
     refine g_run (by kernel_rfl) [(0, .d)] rfl ?_
     refine r_d rfl rfl rfl (s_cmp rfl rfl rfl rfl) ?_
     refine r_end ?_
     refine g_seq ?_
     refine g_known 22 false rfl ht0 ?_
     refine g_condF rfl ?_
     refine g_exit rfl ?_
     refine g_sub [] (Sub.nil _) ?_
     exact HK0 _ _ ⟨w_4, rfl, rfl, hr⟩
    ·
     rw [hd0, lf_snapshot_list_s4_L0] at hr
     refine g_seq ?_
     refine g_run (by kernel_rfl) [(0, .d)] rfl ?_
     refine r_d rfl rfl rfl (s_cmp rfl rfl rfl rfl) ?_
     refine r_end ?_
     refine g_seq ?_
     refine g_known 22 true rfl ht0 ?_
     refine g_condT rfl ?_
     refine g_skip ?_
     refine g_seq ?_
     refine g_block ?_
     refine g_seq ?_
     refine g_run (by kernel_rfl) [(0, .d), (1, .d), (2, .w), (3, .w)] rfl ?_
     refine r_d rfl rfl rfl (m_index (f := encT) l_a1 rfl el_L_api_Term rfl (asl rfl) rfl hq0 sz_encT rfl) ?_
     refine r_d rfl rfl rfl (s_load rfl rfl (by exact ty_api_Term) (sz_encT _)) ?_
     refine r_w rfl rfl rfl (s_alloc rfl zv_api_Term) ?_
     rintro _ _ ⟨b9_6, rfl, rfl⟩
     refine r_w01 rfl rfl rfl (t_store0 _ rfl rfl rfl (Wk.refl _) (pf0 _) (by exact ty_api_Term) (sz_encT _) rfl rfl) ?_
     refine r_end ?_
     refine g_freeze 9 b9_6 rfl (pf0 _) ?_
     refine g_run (by kernel_rfl) [(0, .d), (1, .d), (2, .w)] rfl ?_
     refine r_d rfl rfl rfl (s_move rfl rfl) ?_
     refine r_d rfl rfl rfl (s_load rfl rfl (by exact ty_api_Term) (sz_encT _)) ?_
     obtain ⟨r_8, hr_8, hr⟩ := bindS hr
     refine r_w rfl rfl rfl (s_callV _ rfl rfl cl_Psnapshot_writer_term (.cons rfl (Wk.refl _) .nil) rfl (by exact (pf0 _)) (lgo_Psnapshot_writer_term_s1 rec IHR _ _ _ _ hr_8)) ?_
     rintro _ _ ⟨_, ⟨rfl, rfl⟩, rfl⟩
     refine r_st ((.cell b_o0 (enc_S_snapshot_writer r_8)) :: _) rfl ?_
     refine r_end ?_
     refine g_inBlock ?_
     refine g_run (by kernel_rfl) [(0, .d), (1, .d)] rfl ?_
     refine r_d rfl rfl rfl (s_ar (r := ((i_3 + 1 : Nat) : Int)) rfl rfl rfl (by simp [iar]) (by omega)) ?_
     refine r_d rfl rfl rfl (s_move rfl rfl) ?_
     refine r_end ?_
     refine g_sub [(3, .clo (.func 66) [.ref b_o0 0 []] []), (19, .lst (l_a1.map encT)), (20, .int .i64 (l_a1.length : Int)), (21, .int .i64 ((i_3 + 1 : Nat) : Int))] (Sub.cons' rfl (Sub.cons' rfl (Sub.cons' rfl (Sub.cons' rfl (Sub.nil _))))) ?_
     exact IH0 _ _ _ (by omega) ⟨(i_3 + 1), r_8, rfl, rfl, rfl, (by omega), hr⟩
theorem lg_snapshot_list_s4 : ∀ (fuel : Nat) (l_a1 : (List T)) (most_a2 : Int) (c_0 : S_snapshot_writer) (b_o0 : Nat) (res : S_snapshot_writer), lf_snapshot_list_s4 fuel l_a1 most_a2 c_0 = some res → Spec Tryz.prog 154 [.ref b_o0 0 [], .lst (l_a1.map encT), .int .i64 most_a2, .clo (.func 66) [.ref b_o0 0 []] []] [.cell b_o0 (enc_S_snapshot_writer c_0)] (fun d σ => d = .tup [] ∧ σ = [.cell b_o0 (enc_S_snapshot_writer res)])
  | 0, _, _, _, _, _, h => by cases h
  | fuel + 1, l_a1, most_a2, c_0, b_o0, res, h => lgs_snapshot_list_s4 fuel (lf_snapshot_list_s4 fuel) (lg_snapshot_list_s4 fuel) l_a1 most_a2 c_0 b_o0 res h

noncomputable def lf_Psnapshot_writer_term_s1 (fuel : Nat) (t_a1 : T) (c_0 : S_snapshot_writer) : Option (S_snapshot_writer) := lfo_Psnapshot_writer_term_s1 (lf_snapshot_list_s4 fuel) t_a1 c_0
theorem lg_Psnapshot_writer_term_s1 (fuel : Nat) (t_a1 : T) (c_0 : S_snapshot_writer) (b_o0 : Nat) (res : S_snapshot_writer) (hr : lf_Psnapshot_writer_term_s1 fuel t_a1 c_0 = some res) : Spec Tryz.prog 66 [.ref b_o0 0 [], encT t_a1] [.cell b_o0 (enc_S_snapshot_writer c_0)] (fun d σ => d = .tup [] ∧ σ = [.cell b_o0 (enc_S_snapshot_writer res)]) := lgo_Psnapshot_writer_term_s1 (lf_snapshot_list_s4 fuel) (lg_snapshot_list_s4 fuel) t_a1 c_0 b_o0 res hr

noncomputable def lf_Psnapshot_writer_parts_s1 (fuel : Nat) (name_a1 : ByteArray) (args_a2 : (List T)) (c_0 : S_snapshot_writer) : Option (S_snapshot_writer) :=
  ((lf_Psnapshot_writer_text_s1 name_a1 c_0).bind fun r_1 =>
  ((lf_snapshot_list_s4 fuel args_a2 6 r_1).bind fun r_2 =>
  some (r_2)))

set_option maxHeartbeats 1000000 in
theorem lg_Psnapshot_writer_parts_s1 (fuel : Nat) (name_a1 : ByteArray) (args_a2 : (List T)) (c_0 : S_snapshot_writer) (b_o0 : Nat) (res : S_snapshot_writer) (hr : lf_Psnapshot_writer_parts_s1 fuel name_a1 args_a2 c_0 = some res) : Spec Tryz.prog 152 [.ref b_o0 0 [], .str name_a1, .lst (args_a2.map encT)] [.cell b_o0 (enc_S_snapshot_writer c_0)] (fun d σ => d = .tup [] ∧ σ = [.cell b_o0 (enc_S_snapshot_writer res)]) := by
  unfold lf_Psnapshot_writer_parts_s1 at hr
  refine spec_env [(0, .ref b_o0 0 []), (1, .str name_a1), (2, .lst (args_a2.map encT))] Tryz.func152 rfl rfl fun K hK => ?_
  refine g_seq ?_
  refine g_run (by kernel_rfl) [(0, .d), (1, .d), (2, .w)] rfl ?_
  refine r_d rfl rfl rfl (s_move rfl rfl) ?_
  refine r_d rfl rfl rfl (s_move rfl rfl) ?_
  obtain ⟨r_1, hr_1, hr⟩ := bindS hr
  refine r_w rfl rfl rfl (s_call _ rfl cl_Psnapshot_writer_text (.cons rfl (Wk.refl _) (.cons rfl (Wk.refl _) .nil)) (by exact (pf0 _)) (lg_Psnapshot_writer_text_s1 _ _ _ _ hr_1)) ?_
  rintro _ _ ⟨_, ⟨rfl, rfl⟩, rfl⟩
  refine r_st ((.cell b_o0 (enc_S_snapshot_writer r_1)) :: _) rfl ?_
  refine r_end ?_
  refine g_run (by kernel_rfl) [(0, .d), (1, .d), (2, .d), (3, .d), (4, .w)] rfl ?_
  refine r_d rfl rfl rfl (s_move rfl rfl) ?_
  refine r_d rfl rfl rfl (s_move rfl rfl) ?_
  refine r_d rfl rfl rfl (s_move rfl rfl) ?_
  refine r_d rfl rfl rfl (s_makeFunc rfl rfl rfl) ?_
  obtain ⟨r_2, hr_2, hr⟩ := bindS hr
  refine r_w rfl rfl rfl (s_call _ rfl cl_snapshot_list_api_Term (.cons rfl (Wk.refl _) (.cons rfl (Wk.refl _) (.cons rfl (Wk.refl _) (.cons rfl (Wk.refl _) .nil)))) (by exact (pf0 _)) (lg_snapshot_list_s4 fuel _ _ _ _ _ hr_2)) ?_
  rintro _ _ ⟨_, ⟨rfl, rfl⟩, rfl⟩
  refine r_st ((.cell b_o0 (enc_S_snapshot_writer r_2)) :: _) rfl ?_
  refine r_end ?_
  obtain rfl := Option.some.inj hr
  refine g_end Tryz.func152 _ .nil ?_
  exact ⟨rfl, rfl⟩

noncomputable def lf_Psnapshot_writer_atom_s1 (fuel : Nat) (a_a1 : At) (c_0 : S_snapshot_writer) : Option (S_snapshot_writer) :=
  (bif c_0.f1_bad then
  (bif (!true) then
  ((lf_Psnapshot_writer_parts_s1 fuel a_a1.n a_a1.ts (⟨c_0.f0_b, true⟩ : S_snapshot_writer)).bind fun r_3 =>
  some (r_3))
  else
  some ((⟨c_0.f0_b, true⟩ : S_snapshot_writer)))
  else
  ((x_rightA a_a1).bind fun r_4 =>
  (bif (!(!r_4)) then
  ((lf_Psnapshot_writer_parts_s1 fuel a_a1.n a_a1.ts (⟨c_0.f0_b, (!r_4)⟩ : S_snapshot_writer)).bind fun r_6 =>
  some (r_6))
  else
  some ((⟨c_0.f0_b, (!r_4)⟩ : S_snapshot_writer)))))

set_option maxHeartbeats 1000000 in
theorem lg_Psnapshot_writer_atom_s1 (fuel : Nat) (a_a1 : At) (c_0 : S_snapshot_writer) (b_o0 : Nat) (res : S_snapshot_writer) (hr : lf_Psnapshot_writer_atom_s1 fuel a_a1 c_0 = some res) : Spec Tryz.prog 62 [.ref b_o0 0 [], encA a_a1] [.cell b_o0 (enc_S_snapshot_writer c_0)] (fun d σ => d = .tup [] ∧ σ = [.cell b_o0 (enc_S_snapshot_writer res)]) := by
  unfold lf_Psnapshot_writer_atom_s1 at hr
  refine spec_env [(0, .ref b_o0 0 []), (1, encA a_a1)] Tryz.func62 rfl rfl fun K hK => ?_
  refine g_seq ?_
  refine g_run (by kernel_rfl) [(0, .d)] rfl ?_
  refine r_d rfl rfl rfl (s_box rfl rfl rfl) ?_
  refine r_end ?_
  refine g_seq ?_
  refine g_run (by kernel_rfl) [(0, .d), (1, .d), (2, .d), (3, .d), (4, .r), (5, .d), (6, .d), (7, .d), (8, .d), (9, .d), (10, .d), (11, .d), (12, .w)] rfl ?_
  refine r_d rfl rfl rfl (s_move rfl rfl) ?_
  refine r_d rfl rfl rfl (s_move rfl rfl) ?_
  refine r_d rfl rfl rfl (s_nilCheckR rfl rfl) ?_
  refine r_d rfl rfl rfl (s_fieldRef rfl fl_snapshot_writer_1 rfl) ?_
  refine r_r rfl rfl rfl (t_loadRef rfl rfl (.head _) rfl rfl (by exact ty_bool) rfl) ?_
  refine r_d rfl rfl rfl (s_move rfl rfl) ?_
  refine r_sB 9 rfl hr (fun h9_0 hr => ?_) (fun h9_0 hr => ?_)
  ·
   refine r_skip rfl rfl rfl ?_
   refine r_skip rfl rfl rfl ?_
   refine r_skip rfl rfl rfl ?_
   refine r_d rfl rfl rfl (s_pickT rfl rfl rfl) ?_
   refine r_d rfl rfl rfl (s_nilCheckR rfl rfl) ?_
   refine r_d rfl rfl rfl (s_fieldRef rfl fl_snapshot_writer_1 rfl) ?_
   refine r_w01 rfl rfl rfl (t_store _ rfl rfl rfl (Wk.refl _) (pf0 _) rfl rfl (by exact ty_bool) rfl rfl rfl) ?_
   refine r_end ?_
   refine g_seq ?_
   refine g_run (by kernel_rfl) [(0, .d), (1, .d), (2, .d), (3, .r), (4, .d)] rfl ?_
   refine r_d rfl rfl rfl (s_move rfl rfl) ?_
   refine r_d rfl rfl rfl (s_nilCheckR rfl rfl) ?_
   refine r_d rfl rfl rfl (s_fieldRef rfl fl_snapshot_writer_1 rfl) ?_
   refine r_r rfl rfl rfl (t_loadRef rfl rfl (.head _) rfl rfl (by exact ty_bool) rfl) ?_
   refine r_d rfl rfl rfl (s_not rfl rfl) ?_
   refine r_end ?_
   refine g_sB 20 rfl hr (fun h20_1 hr => ?_) (fun h20_1 hr => ?_)
   ·
    refine g_condT rfl ?_
    refine g_run (by kernel_rfl) [(0, .d), (1, .d), (2, .d), (3, .d), (4, .d), (5, .w)] rfl ?_
    refine r_d rfl rfl rfl (s_move rfl rfl) ?_
    refine r_d rfl rfl rfl (s_fieldAddr rfl fl_api_Atom_0 rfl rfl rfl rfl) ?_
    refine r_d rfl rfl rfl (s_load rfl rfl (by exact ty_string) rfl) ?_
    refine r_d rfl rfl rfl (s_fieldAddr rfl fl_api_Atom_1 rfl rfl rfl rfl) ?_
    refine r_d rfl rfl rfl (s_load rfl rfl (by exact ty_L_api_Term) rfl) ?_
    obtain ⟨r_3, hr_3, hr⟩ := bindS hr
    refine r_w rfl rfl rfl (s_call _ rfl cl_Psnapshot_writer_parts (.cons rfl (Wk.refl _) (.cons rfl (Wk.refl _) (.cons rfl (Wk.refl _) .nil))) (by exact (pf0 _)) (lg_Psnapshot_writer_parts_s1 fuel _ _ _ _ _ hr_3)) ?_
    rintro _ _ ⟨_, ⟨rfl, rfl⟩, rfl⟩
    refine r_st ((.cell b_o0 (enc_S_snapshot_writer r_3)) :: _) rfl ?_
    refine r_end ?_
    obtain rfl := Option.some.inj hr
    refine g_end Tryz.func62 _ .nil ?_
    exact ⟨rfl, rfl⟩
   ·
    refine g_condF rfl ?_
    refine g_skip ?_
    obtain rfl := Option.some.inj hr
    refine g_end Tryz.func62 _ .nil ?_
    exact ⟨rfl, rfl⟩
  ·
   refine r_d rfl rfl rfl (s_load rfl rfl (by exact ty_api_Atom) (sz_encA _)) ?_
   obtain ⟨r_4, hr_4, hr⟩ := bindS hr
   refine r_d rfl rfl rfl (s_callD rfl cl_term_RightAtom (.cons rfl (Wk.refl _) .nil) (lx_term_RightAtom _ _ hr_4)) ?_
   refine r_d rfl rfl rfl (s_not rfl rfl) ?_
   refine r_d rfl rfl rfl (s_pickF rfl rfl rfl) ?_
   refine r_d rfl rfl rfl (s_nilCheckR rfl rfl) ?_
   refine r_d rfl rfl rfl (s_fieldRef rfl fl_snapshot_writer_1 rfl) ?_
   refine r_w01 rfl rfl rfl (t_store _ rfl rfl rfl (Wk.refl _) (pf0 _) rfl rfl (by exact ty_bool) rfl rfl rfl) ?_
   refine r_end ?_
   refine g_seq ?_
   refine g_run (by kernel_rfl) [(0, .d), (1, .d), (2, .d), (3, .r), (4, .d)] rfl ?_
   refine r_d rfl rfl rfl (s_move rfl rfl) ?_
   refine r_d rfl rfl rfl (s_nilCheckR rfl rfl) ?_
   refine r_d rfl rfl rfl (s_fieldRef rfl fl_snapshot_writer_1 rfl) ?_
   refine r_r rfl rfl rfl (t_loadRef rfl rfl (.head _) rfl rfl (by exact ty_bool) rfl) ?_
   refine r_d rfl rfl rfl (s_not rfl rfl) ?_
   refine r_end ?_
   refine g_sB 20 rfl hr (fun h20_4 hr => ?_) (fun h20_4 hr => ?_)
   ·
    refine g_condT rfl ?_
    refine g_run (by kernel_rfl) [(0, .d), (1, .d), (2, .d), (3, .d), (4, .d), (5, .w)] rfl ?_
    refine r_d rfl rfl rfl (s_move rfl rfl) ?_
    refine r_d rfl rfl rfl (s_fieldAddr rfl fl_api_Atom_0 rfl rfl rfl rfl) ?_
    refine r_d rfl rfl rfl (s_load rfl rfl (by exact ty_string) rfl) ?_
    refine r_d rfl rfl rfl (s_fieldAddr rfl fl_api_Atom_1 rfl rfl rfl rfl) ?_
    refine r_d rfl rfl rfl (s_load rfl rfl (by exact ty_L_api_Term) rfl) ?_
    obtain ⟨r_6, hr_6, hr⟩ := bindS hr
    refine r_w rfl rfl rfl (s_call _ rfl cl_Psnapshot_writer_parts (.cons rfl (Wk.refl _) (.cons rfl (Wk.refl _) (.cons rfl (Wk.refl _) .nil))) (by exact (pf0 _)) (lg_Psnapshot_writer_parts_s1 fuel _ _ _ _ _ hr_6)) ?_
    rintro _ _ ⟨_, ⟨rfl, rfl⟩, rfl⟩
    refine r_st ((.cell b_o0 (enc_S_snapshot_writer r_6)) :: _) rfl ?_
    refine r_end ?_
    obtain rfl := Option.some.inj hr
    refine g_end Tryz.func62 _ .nil ?_
    exact ⟨rfl, rfl⟩
   ·
    refine g_condF rfl ?_
    refine g_skip ?_
    obtain rfl := Option.some.inj hr
    refine g_end Tryz.func62 _ .nil ?_
    exact ⟨rfl, rfl⟩

noncomputable def lf_snapshot_list_s3_L0 (k : (S_snapshot_writer) → Option (S_snapshot_writer)) (fuel : Nat) : List At → S_snapshot_writer → Option (S_snapshot_writer)
  | [], w_4 =>
  (k w_4)
  | q_6 :: rest, w_4 =>
  ((lf_Psnapshot_writer_atom_s1 fuel q_6 w_4).bind fun r_8 =>
  (lf_snapshot_list_s3_L0 k fuel rest r_8))
noncomputable def lf_snapshot_list_s3 (fuel : Nat) (l_a1 : (List At)) (most_a2 : Int) (c_0 : S_snapshot_writer) : Option (S_snapshot_writer) :=
  ((lf_Psnapshot_writer_number_s1 (l_a1.length : Int) 0 most_a2 c_0).bind fun r_1 =>
  (bif r_1.f1_bad then
  some (r_1)
  else
  (lf_snapshot_list_s3_L0 (fun w_5 =>
  some (w_5)) fuel l_a1 r_1)))

set_option maxHeartbeats 1000000 in
theorem lg_snapshot_list_s3 (fuel : Nat) (l_a1 : (List At)) (most_a2 : Int) (c_0 : S_snapshot_writer) (b_o0 : Nat) (res : S_snapshot_writer) (hr : lf_snapshot_list_s3 fuel l_a1 most_a2 c_0 = some res) : Spec Tryz.prog 133 [.ref b_o0 0 [], .lst (l_a1.map encA), .int .i64 most_a2, .clo (.func 62) [.ref b_o0 0 []] []] [.cell b_o0 (enc_S_snapshot_writer c_0)] (fun d σ => d = .tup [] ∧ σ = [.cell b_o0 (enc_S_snapshot_writer res)]) := by
  unfold lf_snapshot_list_s3 at hr
  refine spec_env [(0, .ref b_o0 0 []), (1, .lst (l_a1.map encA)), (2, .int .i64 most_a2), (3, .clo (.func 62) [.ref b_o0 0 []] [])] Tryz.func133 rfl rfl fun K hK => ?_
  refine g_seq ?_
  refine g_run (by kernel_rfl) [(0, .d), (1, .d), (2, .d), (3, .d), (4, .w)] rfl ?_
  refine r_d rfl rfl rfl (s_move rfl rfl) ?_
  refine r_d rfl rfl rfl (s_move rfl rfl) ?_
  refine r_d rfl rfl rfl (m_len (f := encA) l_a1 rfl el_L_api_Atom rfl (asl rfl)) ?_
  refine r_d rfl rfl rfl (s_move rfl rfl) ?_
  obtain ⟨r_1, hr_1, hr⟩ := bindS hr
  refine r_w rfl rfl rfl (s_call _ rfl cl_Psnapshot_writer_number (.cons rfl (Wk.refl _) (.cons rfl (Wk.refl _) (.cons rfl (Wk.refl _) (.cons rfl (Wk.refl _) .nil)))) (by exact (pf0 _)) (lg_Psnapshot_writer_number_s1 _ _ _ _ _ _ hr_1)) ?_
  rintro _ _ ⟨_, ⟨rfl, rfl⟩, rfl⟩
  refine r_st ((.cell b_o0 (enc_S_snapshot_writer r_1)) :: _) rfl ?_
  refine r_end ?_
  refine g_seq ?_
  refine g_seq ?_
  refine g_run (by kernel_rfl) [(0, .d), (1, .d), (2, .d), (3, .r)] rfl ?_
  refine r_d rfl rfl rfl (s_move rfl rfl) ?_
  refine r_d rfl rfl rfl (s_nilCheckR rfl rfl) ?_
  refine r_d rfl rfl rfl (s_fieldRef rfl fl_snapshot_writer_1 rfl) ?_
  refine r_r rfl rfl rfl (t_loadRef rfl rfl (.head _) rfl rfl (by exact ty_bool) rfl) ?_
  refine r_end ?_
  refine g_sB 18 rfl hr (fun h18_1 hr => ?_) (fun h18_1 hr => ?_)
  ·
   refine g_condT rfl ?_
   obtain rfl := Option.some.inj hr
   refine g_ret Tryz.func133 _ .nil ?_
   exact ⟨rfl, rfl⟩
  ·
   refine g_condF rfl ?_
   refine g_skip ?_
   refine g_seq ?_
   refine g_run (by kernel_rfl) [(0, .d), (1, .d), (2, .d)] rfl ?_
   refine r_d rfl rfl rfl (s_move rfl rfl) ?_
   refine r_d rfl rfl rfl (m_len (f := encA) l_a1 rfl el_L_api_Atom rfl (asl rfl)) ?_
   refine r_d rfl rfl rfl (s_move rfl rfl) ?_
   refine r_end ?_
   obtain ⟨kk0, hkk0, hr⟩ := exK (fun k => lf_snapshot_list_s3_L0 k fuel l_a1 r_1) hr
   refine g_len 1 rfl (asl rfl) fun hla0 => ?_
   simp only [List.length_map] at hla0
   refine g_blockJ (fun env σ => ∃ (w_5 : S_snapshot_writer), env = [] ∧ σ = [.cell b_o0 (enc_S_snapshot_writer w_5)] ∧ kk0 w_5 = some res) ?_ (fun HK0 => ?_)
   ·
    rintro _ _ ⟨w_5, rfl, rfl, hr⟩
    rw [hkk0] at hr
    obtain rfl := Option.some.inj hr
    refine g_end Tryz.func133 _ .nil ?_
    exact ⟨rfl, rfl⟩
   ·
    refine g_sub [(3, .clo (.func 62) [.ref b_o0 0 []] []), (19, .lst (l_a1.map encA)), (20, .int .i64 (l_a1.length : Int)), (21, .int .i64 ((0 : Nat) : Int))] (Sub.cons' rfl (Sub.cons' rfl (Sub.cons' rfl (Sub.cons' rfl (Sub.nil _))))) ?_
    refine g_loop (fun n env σ => ∃ (i_3 : Nat) (w_4 : S_snapshot_writer), (n = l_a1.length - i_3) ∧ (env = [(3, .clo (.func 62) [.ref b_o0 0 []] []), (19, .lst (l_a1.map encA)), (20, .int .i64 (l_a1.length : Int)), (21, .int .i64 (i_3 : Int))]) ∧ (σ = [.cell b_o0 (enc_S_snapshot_writer w_4)]) ∧ (i_3 ≤ l_a1.length) ∧ (lf_snapshot_list_s3_L0 kk0 fuel (l_a1.drop i_3) w_4 = some res)) _ ⟨0, r_1, rfl, rfl, rfl, Nat.zero_le _, hr⟩ ?_
    rintro n _ _ ⟨i_3, w_4, rfl, rfl, rfl, hi0, hr⟩ IH0
    rcases listStep l_a1 i_3 hi0 with ⟨ht0, hd0, he0⟩ | ⟨q_6, ht0, hd0, hq0, hlt0⟩
    ·
     rw [hd0, lf_snapshot_list_s3_L0] at hr
     refine g_seq ?_
     refine g_run (by kernel_rfl) [(0, .d)] rfl ?_
     refine r_d rfl rfl rfl (s_cmp rfl rfl rfl rfl) ?_
     refine r_end ?_
     refine g_seq ?_
     refine g_known 22 false rfl ht0 ?_
     refine g_condF rfl ?_
     refine g_exit rfl ?_
     refine g_sub [] (Sub.nil _) ?_
     exact HK0 _ _ ⟨w_4, rfl, rfl, hr⟩
    ·
     rw [hd0, lf_snapshot_list_s3_L0] at hr
     refine g_seq ?_
     refine g_run (by kernel_rfl) [(0, .d)] rfl ?_
     refine r_d rfl rfl rfl (s_cmp rfl rfl rfl rfl) ?_
     refine r_end ?_
     refine g_seq ?_
     refine g_known 22 true rfl ht0 ?_
     refine g_condT rfl ?_
     refine g_skip ?_
     refine g_seq ?_
     refine g_block ?_
     refine g_seq ?_
     refine g_run (by kernel_rfl) [(0, .d), (1, .d), (2, .w), (3, .w)] rfl ?_
     refine r_d rfl rfl rfl (m_index (f := encA) l_a1 rfl el_L_api_Atom rfl (asl rfl) rfl hq0 sz_encA rfl) ?_
     refine r_d rfl rfl rfl (s_load rfl rfl (by exact ty_api_Atom) (sz_encA _)) ?_
     refine r_w rfl rfl rfl (s_alloc rfl zv_api_Atom) ?_
     rintro _ _ ⟨b9_6, rfl, rfl⟩
     refine r_w01 rfl rfl rfl (t_store0 _ rfl rfl rfl (Wk.refl _) (pf0 _) (by exact ty_api_Atom) (sz_encA _) rfl rfl) ?_
     refine r_end ?_
     refine g_freeze 9 b9_6 rfl (pf0 _) ?_
     refine g_run (by kernel_rfl) [(0, .d), (1, .d), (2, .w)] rfl ?_
     refine r_d rfl rfl rfl (s_move rfl rfl) ?_
     refine r_d rfl rfl rfl (s_load rfl rfl (by exact ty_api_Atom) (sz_encA _)) ?_
     obtain ⟨r_8, hr_8, hr⟩ := bindS hr
     refine r_w rfl rfl rfl (s_callV _ rfl rfl cl_Psnapshot_writer_atom (.cons rfl (Wk.refl _) .nil) rfl (by exact (pf0 _)) (lg_Psnapshot_writer_atom_s1 fuel _ _ _ _ hr_8)) ?_
     rintro _ _ ⟨_, ⟨rfl, rfl⟩, rfl⟩
     refine r_st ((.cell b_o0 (enc_S_snapshot_writer r_8)) :: _) rfl ?_
     refine r_end ?_
     refine g_inBlock ?_
     refine g_run (by kernel_rfl) [(0, .d), (1, .d)] rfl ?_
     refine r_d rfl rfl rfl (s_ar (r := ((i_3 + 1 : Nat) : Int)) rfl rfl rfl (by simp [iar]) (by omega)) ?_
     refine r_d rfl rfl rfl (s_move rfl rfl) ?_
     refine r_end ?_
     refine g_sub [(3, .clo (.func 62) [.ref b_o0 0 []] []), (19, .lst (l_a1.map encA)), (20, .int .i64 (l_a1.length : Int)), (21, .int .i64 ((i_3 + 1 : Nat) : Int))] (Sub.cons' rfl (Sub.cons' rfl (Sub.cons' rfl (Sub.cons' rfl (Sub.nil _))))) ?_
     exact IH0 _ _ _ (by omega) ⟨(i_3 + 1), r_8, rfl, rfl, rfl, (by omega), hr⟩

noncomputable def lf_Psnapshot_writer_goal_s1 (fuel : Nat) (g_a1 : Gl) (c_0 : S_snapshot_writer) : Option (S_snapshot_writer) :=
  (bif c_0.f1_bad then
  (bif (!true) then
  ((lf_Psnapshot_writer_number_s1 g_a1.op 0 12 (⟨c_0.f0_b, true⟩ : S_snapshot_writer)).bind fun r_3 =>
  ((lf_Psnapshot_writer_parts_s1 fuel g_a1.n g_a1.ts r_3).bind fun r_4 =>
  some (r_4)))
  else
  some ((⟨c_0.f0_b, true⟩ : S_snapshot_writer)))
  else
  ((x_rightG g_a1).bind fun r_5 =>
  (bif (!(!r_5)) then
  ((lf_Psnapshot_writer_number_s1 g_a1.op 0 12 (⟨c_0.f0_b, (!r_5)⟩ : S_snapshot_writer)).bind fun r_7 =>
  ((lf_Psnapshot_writer_parts_s1 fuel g_a1.n g_a1.ts r_7).bind fun r_8 =>
  some (r_8)))
  else
  some ((⟨c_0.f0_b, (!r_5)⟩ : S_snapshot_writer)))))

set_option maxHeartbeats 1000000 in
theorem lg_Psnapshot_writer_goal_s1 (fuel : Nat) (g_a1 : Gl) (c_0 : S_snapshot_writer) (b_o0 : Nat) (res : S_snapshot_writer) (hr : lf_Psnapshot_writer_goal_s1 fuel g_a1 c_0 = some res) : Spec Tryz.prog 135 [.ref b_o0 0 [], encG g_a1] [.cell b_o0 (enc_S_snapshot_writer c_0)] (fun d σ => d = .tup [] ∧ σ = [.cell b_o0 (enc_S_snapshot_writer res)]) := by
  unfold lf_Psnapshot_writer_goal_s1 at hr
  refine spec_env [(0, .ref b_o0 0 []), (1, encG g_a1)] Tryz.func135 rfl rfl fun K hK => ?_
  refine g_seq ?_
  refine g_run (by kernel_rfl) [(0, .d)] rfl ?_
  refine r_d rfl rfl rfl (s_box rfl rfl rfl) ?_
  refine r_end ?_
  refine g_seq ?_
  refine g_run (by kernel_rfl) [(0, .d), (1, .d), (2, .d), (3, .d), (4, .r), (5, .d), (6, .d), (7, .d), (8, .d), (9, .d), (10, .d), (11, .d), (12, .w)] rfl ?_
  refine r_d rfl rfl rfl (s_move rfl rfl) ?_
  refine r_d rfl rfl rfl (s_move rfl rfl) ?_
  refine r_d rfl rfl rfl (s_nilCheckR rfl rfl) ?_
  refine r_d rfl rfl rfl (s_fieldRef rfl fl_snapshot_writer_1 rfl) ?_
  refine r_r rfl rfl rfl (t_loadRef rfl rfl (.head _) rfl rfl (by exact ty_bool) rfl) ?_
  refine r_d rfl rfl rfl (s_move rfl rfl) ?_
  refine r_sB 9 rfl hr (fun h9_0 hr => ?_) (fun h9_0 hr => ?_)
  ·
   refine r_skip rfl rfl rfl ?_
   refine r_skip rfl rfl rfl ?_
   refine r_skip rfl rfl rfl ?_
   refine r_d rfl rfl rfl (s_pickT rfl rfl rfl) ?_
   refine r_d rfl rfl rfl (s_nilCheckR rfl rfl) ?_
   refine r_d rfl rfl rfl (s_fieldRef rfl fl_snapshot_writer_1 rfl) ?_
   refine r_w01 rfl rfl rfl (t_store _ rfl rfl rfl (Wk.refl _) (pf0 _) rfl rfl (by exact ty_bool) rfl rfl rfl) ?_
   refine r_end ?_
   refine g_seq ?_
   refine g_run (by kernel_rfl) [(0, .d), (1, .d), (2, .d), (3, .r), (4, .d)] rfl ?_
   refine r_d rfl rfl rfl (s_move rfl rfl) ?_
   refine r_d rfl rfl rfl (s_nilCheckR rfl rfl) ?_
   refine r_d rfl rfl rfl (s_fieldRef rfl fl_snapshot_writer_1 rfl) ?_
   refine r_r rfl rfl rfl (t_loadRef rfl rfl (.head _) rfl rfl (by exact ty_bool) rfl) ?_
   refine r_d rfl rfl rfl (s_not rfl rfl) ?_
   refine r_end ?_
   refine g_sB 20 rfl hr (fun h20_1 hr => ?_) (fun h20_1 hr => ?_)
   ·
    refine g_condT rfl ?_
    refine g_seq ?_
    refine g_run (by kernel_rfl) [(0, .d), (1, .d), (2, .d), (3, .w)] rfl ?_
    refine r_d rfl rfl rfl (s_move rfl rfl) ?_
    refine r_d rfl rfl rfl (s_fieldAddr rfl fl_api_Goal_0 rfl rfl rfl rfl) ?_
    refine r_d rfl rfl rfl (s_load rfl rfl (by exact ty_int) rfl) ?_
    obtain ⟨r_3, hr_3, hr⟩ := bindS hr
    refine r_w rfl rfl rfl (s_call _ rfl cl_Psnapshot_writer_number (.cons rfl (Wk.refl _) (.cons rfl (Wk.refl _) (.cons rfl (Wk.refl _) (.cons rfl (Wk.refl _) .nil)))) (by exact (pf0 _)) (lg_Psnapshot_writer_number_s1 _ _ _ _ _ _ hr_3)) ?_
    rintro _ _ ⟨_, ⟨rfl, rfl⟩, rfl⟩
    refine r_st ((.cell b_o0 (enc_S_snapshot_writer r_3)) :: _) rfl ?_
    refine r_end ?_
    refine g_run (by kernel_rfl) [(0, .d), (1, .d), (2, .d), (3, .d), (4, .d), (5, .w)] rfl ?_
    refine r_d rfl rfl rfl (s_move rfl rfl) ?_
    refine r_d rfl rfl rfl (s_fieldAddr rfl fl_api_Goal_1 rfl rfl rfl rfl) ?_
    refine r_d rfl rfl rfl (s_load rfl rfl (by exact ty_string) rfl) ?_
    refine r_d rfl rfl rfl (s_fieldAddr rfl fl_api_Goal_2 rfl rfl rfl rfl) ?_
    refine r_d rfl rfl rfl (s_load rfl rfl (by exact ty_L_api_Term) rfl) ?_
    obtain ⟨r_4, hr_4, hr⟩ := bindS hr
    refine r_w rfl rfl rfl (s_call _ rfl cl_Psnapshot_writer_parts (.cons rfl (Wk.refl _) (.cons rfl (Wk.refl _) (.cons rfl (Wk.refl _) .nil))) (by exact (pf0 _)) (lg_Psnapshot_writer_parts_s1 fuel _ _ _ _ _ hr_4)) ?_
    rintro _ _ ⟨_, ⟨rfl, rfl⟩, rfl⟩
    refine r_st ((.cell b_o0 (enc_S_snapshot_writer r_4)) :: _) rfl ?_
    refine r_end ?_
    obtain rfl := Option.some.inj hr
    refine g_end Tryz.func135 _ .nil ?_
    exact ⟨rfl, rfl⟩
   ·
    refine g_condF rfl ?_
    refine g_skip ?_
    obtain rfl := Option.some.inj hr
    refine g_end Tryz.func135 _ .nil ?_
    exact ⟨rfl, rfl⟩
  ·
   refine r_d rfl rfl rfl (s_load rfl rfl (by exact ty_api_Goal) (sz_encG _)) ?_
   obtain ⟨r_5, hr_5, hr⟩ := bindS hr
   refine r_d rfl rfl rfl (s_callD rfl cl_term_RightGoal (.cons rfl (Wk.refl _) .nil) (lx_term_RightGoal _ _ hr_5)) ?_
   refine r_d rfl rfl rfl (s_not rfl rfl) ?_
   refine r_d rfl rfl rfl (s_pickF rfl rfl rfl) ?_
   refine r_d rfl rfl rfl (s_nilCheckR rfl rfl) ?_
   refine r_d rfl rfl rfl (s_fieldRef rfl fl_snapshot_writer_1 rfl) ?_
   refine r_w01 rfl rfl rfl (t_store _ rfl rfl rfl (Wk.refl _) (pf0 _) rfl rfl (by exact ty_bool) rfl rfl rfl) ?_
   refine r_end ?_
   refine g_seq ?_
   refine g_run (by kernel_rfl) [(0, .d), (1, .d), (2, .d), (3, .r), (4, .d)] rfl ?_
   refine r_d rfl rfl rfl (s_move rfl rfl) ?_
   refine r_d rfl rfl rfl (s_nilCheckR rfl rfl) ?_
   refine r_d rfl rfl rfl (s_fieldRef rfl fl_snapshot_writer_1 rfl) ?_
   refine r_r rfl rfl rfl (t_loadRef rfl rfl (.head _) rfl rfl (by exact ty_bool) rfl) ?_
   refine r_d rfl rfl rfl (s_not rfl rfl) ?_
   refine r_end ?_
   refine g_sB 20 rfl hr (fun h20_5 hr => ?_) (fun h20_5 hr => ?_)
   ·
    refine g_condT rfl ?_
    refine g_seq ?_
    refine g_run (by kernel_rfl) [(0, .d), (1, .d), (2, .d), (3, .w)] rfl ?_
    refine r_d rfl rfl rfl (s_move rfl rfl) ?_
    refine r_d rfl rfl rfl (s_fieldAddr rfl fl_api_Goal_0 rfl rfl rfl rfl) ?_
    refine r_d rfl rfl rfl (s_load rfl rfl (by exact ty_int) rfl) ?_
    obtain ⟨r_7, hr_7, hr⟩ := bindS hr
    refine r_w rfl rfl rfl (s_call _ rfl cl_Psnapshot_writer_number (.cons rfl (Wk.refl _) (.cons rfl (Wk.refl _) (.cons rfl (Wk.refl _) (.cons rfl (Wk.refl _) .nil)))) (by exact (pf0 _)) (lg_Psnapshot_writer_number_s1 _ _ _ _ _ _ hr_7)) ?_
    rintro _ _ ⟨_, ⟨rfl, rfl⟩, rfl⟩
    refine r_st ((.cell b_o0 (enc_S_snapshot_writer r_7)) :: _) rfl ?_
    refine r_end ?_
    refine g_run (by kernel_rfl) [(0, .d), (1, .d), (2, .d), (3, .d), (4, .d), (5, .w)] rfl ?_
    refine r_d rfl rfl rfl (s_move rfl rfl) ?_
    refine r_d rfl rfl rfl (s_fieldAddr rfl fl_api_Goal_1 rfl rfl rfl rfl) ?_
    refine r_d rfl rfl rfl (s_load rfl rfl (by exact ty_string) rfl) ?_
    refine r_d rfl rfl rfl (s_fieldAddr rfl fl_api_Goal_2 rfl rfl rfl rfl) ?_
    refine r_d rfl rfl rfl (s_load rfl rfl (by exact ty_L_api_Term) rfl) ?_
    obtain ⟨r_8, hr_8, hr⟩ := bindS hr
    refine r_w rfl rfl rfl (s_call _ rfl cl_Psnapshot_writer_parts (.cons rfl (Wk.refl _) (.cons rfl (Wk.refl _) (.cons rfl (Wk.refl _) .nil))) (by exact (pf0 _)) (lg_Psnapshot_writer_parts_s1 fuel _ _ _ _ _ hr_8)) ?_
    rintro _ _ ⟨_, ⟨rfl, rfl⟩, rfl⟩
    refine r_st ((.cell b_o0 (enc_S_snapshot_writer r_8)) :: _) rfl ?_
    refine r_end ?_
    obtain rfl := Option.some.inj hr
    refine g_end Tryz.func135 _ .nil ?_
    exact ⟨rfl, rfl⟩
   ·
    refine g_condF rfl ?_
    refine g_skip ?_
    obtain rfl := Option.some.inj hr
    refine g_end Tryz.func135 _ .nil ?_
    exact ⟨rfl, rfl⟩

noncomputable def lf_snapshot_list_s5_L0 (k : (S_snapshot_writer) → Option (S_snapshot_writer)) (fuel : Nat) : List Gl → S_snapshot_writer → Option (S_snapshot_writer)
  | [], w_4 =>
  (k w_4)
  | q_6 :: rest, w_4 =>
  ((lf_Psnapshot_writer_goal_s1 fuel q_6 w_4).bind fun r_8 =>
  (lf_snapshot_list_s5_L0 k fuel rest r_8))
noncomputable def lf_snapshot_list_s5 (fuel : Nat) (l_a1 : (List Gl)) (most_a2 : Int) (c_0 : S_snapshot_writer) : Option (S_snapshot_writer) :=
  ((lf_Psnapshot_writer_number_s1 (l_a1.length : Int) 0 most_a2 c_0).bind fun r_1 =>
  (bif r_1.f1_bad then
  some (r_1)
  else
  (lf_snapshot_list_s5_L0 (fun w_5 =>
  some (w_5)) fuel l_a1 r_1)))

set_option maxHeartbeats 1000000 in
theorem lg_snapshot_list_s5 (fuel : Nat) (l_a1 : (List Gl)) (most_a2 : Int) (c_0 : S_snapshot_writer) (b_o0 : Nat) (res : S_snapshot_writer) (hr : lf_snapshot_list_s5 fuel l_a1 most_a2 c_0 = some res) : Spec Tryz.prog 134 [.ref b_o0 0 [], .lst (l_a1.map encG), .int .i64 most_a2, .clo (.func 135) [.ref b_o0 0 []] []] [.cell b_o0 (enc_S_snapshot_writer c_0)] (fun d σ => d = .tup [] ∧ σ = [.cell b_o0 (enc_S_snapshot_writer res)]) := by
  unfold lf_snapshot_list_s5 at hr
  refine spec_env [(0, .ref b_o0 0 []), (1, .lst (l_a1.map encG)), (2, .int .i64 most_a2), (3, .clo (.func 135) [.ref b_o0 0 []] [])] Tryz.func134 rfl rfl fun K hK => ?_
  refine g_seq ?_
  refine g_run (by kernel_rfl) [(0, .d), (1, .d), (2, .d), (3, .d), (4, .w)] rfl ?_
  refine r_d rfl rfl rfl (s_move rfl rfl) ?_
  refine r_d rfl rfl rfl (s_move rfl rfl) ?_
  refine r_d rfl rfl rfl (m_len (f := encG) l_a1 rfl el_L_api_Goal rfl (asl rfl)) ?_
  refine r_d rfl rfl rfl (s_move rfl rfl) ?_
  obtain ⟨r_1, hr_1, hr⟩ := bindS hr
  refine r_w rfl rfl rfl (s_call _ rfl cl_Psnapshot_writer_number (.cons rfl (Wk.refl _) (.cons rfl (Wk.refl _) (.cons rfl (Wk.refl _) (.cons rfl (Wk.refl _) .nil)))) (by exact (pf0 _)) (lg_Psnapshot_writer_number_s1 _ _ _ _ _ _ hr_1)) ?_
  rintro _ _ ⟨_, ⟨rfl, rfl⟩, rfl⟩
  refine r_st ((.cell b_o0 (enc_S_snapshot_writer r_1)) :: _) rfl ?_
  refine r_end ?_
  refine g_seq ?_
  refine g_seq ?_
  refine g_run (by kernel_rfl) [(0, .d), (1, .d), (2, .d), (3, .r)] rfl ?_
  refine r_d rfl rfl rfl (s_move rfl rfl) ?_
  refine r_d rfl rfl rfl (s_nilCheckR rfl rfl) ?_
  refine r_d rfl rfl rfl (s_fieldRef rfl fl_snapshot_writer_1 rfl) ?_
  refine r_r rfl rfl rfl (t_loadRef rfl rfl (.head _) rfl rfl (by exact ty_bool) rfl) ?_
  refine r_end ?_
  refine g_sB 18 rfl hr (fun h18_1 hr => ?_) (fun h18_1 hr => ?_)
  ·
   refine g_condT rfl ?_
   obtain rfl := Option.some.inj hr
   refine g_ret Tryz.func134 _ .nil ?_
   exact ⟨rfl, rfl⟩
  ·
   refine g_condF rfl ?_
   refine g_skip ?_
   refine g_seq ?_
   refine g_run (by kernel_rfl) [(0, .d), (1, .d), (2, .d)] rfl ?_
   refine r_d rfl rfl rfl (s_move rfl rfl) ?_
   refine r_d rfl rfl rfl (m_len (f := encG) l_a1 rfl el_L_api_Goal rfl (asl rfl)) ?_
   refine r_d rfl rfl rfl (s_move rfl rfl) ?_
   refine r_end ?_
   obtain ⟨kk0, hkk0, hr⟩ := exK (fun k => lf_snapshot_list_s5_L0 k fuel l_a1 r_1) hr
   refine g_len 1 rfl (asl rfl) fun hla0 => ?_
   simp only [List.length_map] at hla0
   refine g_blockJ (fun env σ => ∃ (w_5 : S_snapshot_writer), env = [] ∧ σ = [.cell b_o0 (enc_S_snapshot_writer w_5)] ∧ kk0 w_5 = some res) ?_ (fun HK0 => ?_)
   ·
    rintro _ _ ⟨w_5, rfl, rfl, hr⟩
    rw [hkk0] at hr
    obtain rfl := Option.some.inj hr
    refine g_end Tryz.func134 _ .nil ?_
    exact ⟨rfl, rfl⟩
   ·
    refine g_sub [(3, .clo (.func 135) [.ref b_o0 0 []] []), (19, .lst (l_a1.map encG)), (20, .int .i64 (l_a1.length : Int)), (21, .int .i64 ((0 : Nat) : Int))] (Sub.cons' rfl (Sub.cons' rfl (Sub.cons' rfl (Sub.cons' rfl (Sub.nil _))))) ?_
    refine g_loop (fun n env σ => ∃ (i_3 : Nat) (w_4 : S_snapshot_writer), (n = l_a1.length - i_3) ∧ (env = [(3, .clo (.func 135) [.ref b_o0 0 []] []), (19, .lst (l_a1.map encG)), (20, .int .i64 (l_a1.length : Int)), (21, .int .i64 (i_3 : Int))]) ∧ (σ = [.cell b_o0 (enc_S_snapshot_writer w_4)]) ∧ (i_3 ≤ l_a1.length) ∧ (lf_snapshot_list_s5_L0 kk0 fuel (l_a1.drop i_3) w_4 = some res)) _ ⟨0, r_1, rfl, rfl, rfl, Nat.zero_le _, hr⟩ ?_
    rintro n _ _ ⟨i_3, w_4, rfl, rfl, rfl, hi0, hr⟩ IH0
    rcases listStep l_a1 i_3 hi0 with ⟨ht0, hd0, he0⟩ | ⟨q_6, ht0, hd0, hq0, hlt0⟩
    ·
     rw [hd0, lf_snapshot_list_s5_L0] at hr
     refine g_seq ?_
     refine g_run (by kernel_rfl) [(0, .d)] rfl ?_
     refine r_d rfl rfl rfl (s_cmp rfl rfl rfl rfl) ?_
     refine r_end ?_
     refine g_seq ?_
     refine g_known 22 false rfl ht0 ?_
     refine g_condF rfl ?_
     refine g_exit rfl ?_
     refine g_sub [] (Sub.nil _) ?_
     exact HK0 _ _ ⟨w_4, rfl, rfl, hr⟩
    ·
     rw [hd0, lf_snapshot_list_s5_L0] at hr
     refine g_seq ?_
     refine g_run (by kernel_rfl) [(0, .d)] rfl ?_
     refine r_d rfl rfl rfl (s_cmp rfl rfl rfl rfl) ?_
     refine r_end ?_
     refine g_seq ?_
     refine g_known 22 true rfl ht0 ?_
     refine g_condT rfl ?_
     refine g_skip ?_
     refine g_seq ?_
     refine g_block ?_
     refine g_seq ?_
     refine g_run (by kernel_rfl) [(0, .d), (1, .d), (2, .w), (3, .w)] rfl ?_
     refine r_d rfl rfl rfl (m_index (f := encG) l_a1 rfl el_L_api_Goal rfl (asl rfl) rfl hq0 sz_encG rfl) ?_
     refine r_d rfl rfl rfl (s_load rfl rfl (by exact ty_api_Goal) (sz_encG _)) ?_
     refine r_w rfl rfl rfl (s_alloc rfl zv_api_Goal) ?_
     rintro _ _ ⟨b9_6, rfl, rfl⟩
     refine r_w01 rfl rfl rfl (t_store0 _ rfl rfl rfl (Wk.refl _) (pf0 _) (by exact ty_api_Goal) (sz_encG _) rfl rfl) ?_
     refine r_end ?_
     refine g_freeze 9 b9_6 rfl (pf0 _) ?_
     refine g_run (by kernel_rfl) [(0, .d), (1, .d), (2, .w)] rfl ?_
     refine r_d rfl rfl rfl (s_move rfl rfl) ?_
     refine r_d rfl rfl rfl (s_load rfl rfl (by exact ty_api_Goal) (sz_encG _)) ?_
     obtain ⟨r_8, hr_8, hr⟩ := bindS hr
     refine r_w rfl rfl rfl (s_callV _ rfl rfl cl_Psnapshot_writer_goal (.cons rfl (Wk.refl _) .nil) rfl (by exact (pf0 _)) (lg_Psnapshot_writer_goal_s1 fuel _ _ _ _ hr_8)) ?_
     rintro _ _ ⟨_, ⟨rfl, rfl⟩, rfl⟩
     refine r_st ((.cell b_o0 (enc_S_snapshot_writer r_8)) :: _) rfl ?_
     refine r_end ?_
     refine g_inBlock ?_
     refine g_run (by kernel_rfl) [(0, .d), (1, .d)] rfl ?_
     refine r_d rfl rfl rfl (s_ar (r := ((i_3 + 1 : Nat) : Int)) rfl rfl rfl (by simp [iar]) (by omega)) ?_
     refine r_d rfl rfl rfl (s_move rfl rfl) ?_
     refine r_end ?_
     refine g_sub [(3, .clo (.func 135) [.ref b_o0 0 []] []), (19, .lst (l_a1.map encG)), (20, .int .i64 (l_a1.length : Int)), (21, .int .i64 ((i_3 + 1 : Nat) : Int))] (Sub.cons' rfl (Sub.cons' rfl (Sub.cons' rfl (Sub.cons' rfl (Sub.nil _))))) ?_
     exact IH0 _ _ _ (by omega) ⟨(i_3 + 1), r_8, rfl, rfl, rfl, (by omega), hr⟩

noncomputable def lf_Psnapshot_writer_rule_s1 (fuel : Nat) (r_a1 : S_api_Rule) (c_0 : S_snapshot_writer) : Option (S_snapshot_writer) :=
  ((lf_Psnapshot_writer_text_s1 r_a1.f0_Name c_0).bind fun r_1 =>
  ((lf_snapshot_list_s3 fuel r_a1.f1_Keep 4 r_1).bind fun r_2 =>
  ((lf_snapshot_list_s3 fuel r_a1.f2_Remove 4 r_2).bind fun r_3 =>
  ((lf_snapshot_list_s5 fuel r_a1.f3_Guard 12 r_3).bind fun r_4 =>
  ((lf_snapshot_list_s5 fuel r_a1.f4_Body 12 r_4).bind fun r_5 =>
  ((lf_Psnapshot_writer_number_s1 r_a1.f5_Vars 0 1048576 r_5).bind fun r_6 =>
  some (r_6)))))))

set_option maxHeartbeats 1000000 in
theorem lg_Psnapshot_writer_rule_s1 (fuel : Nat) (r_a1 : S_api_Rule) (c_0 : S_snapshot_writer) (b_o0 : Nat) (res : S_snapshot_writer) (hr : lf_Psnapshot_writer_rule_s1 fuel r_a1 c_0 = some res) : Spec Tryz.prog 39 [.ref b_o0 0 [], enc_S_api_Rule r_a1] [.cell b_o0 (enc_S_snapshot_writer c_0)] (fun d σ => d = .tup [] ∧ σ = [.cell b_o0 (enc_S_snapshot_writer res)]) := by
  unfold lf_Psnapshot_writer_rule_s1 at hr
  refine spec_env [(0, .ref b_o0 0 []), (1, enc_S_api_Rule r_a1)] Tryz.func39 rfl rfl fun K hK => ?_
  refine g_seq ?_
  refine g_run (by kernel_rfl) [(0, .d)] rfl ?_
  refine r_d rfl rfl rfl (s_box rfl rfl rfl) ?_
  refine r_end ?_
  refine g_seq ?_
  refine g_run (by kernel_rfl) [(0, .d), (1, .d), (2, .d), (3, .w)] rfl ?_
  refine r_d rfl rfl rfl (s_move rfl rfl) ?_
  refine r_d rfl rfl rfl (s_fieldAddr rfl fl_api_Rule_0 rfl rfl rfl rfl) ?_
  refine r_d rfl rfl rfl (s_load rfl rfl (by exact ty_string) rfl) ?_
  obtain ⟨r_1, hr_1, hr⟩ := bindS hr
  refine r_w rfl rfl rfl (s_call _ rfl cl_Psnapshot_writer_text (.cons rfl (Wk.refl _) (.cons rfl (Wk.refl _) .nil)) (by exact (pf0 _)) (lg_Psnapshot_writer_text_s1 _ _ _ _ hr_1)) ?_
  rintro _ _ ⟨_, ⟨rfl, rfl⟩, rfl⟩
  refine r_st ((.cell b_o0 (enc_S_snapshot_writer r_1)) :: _) rfl ?_
  refine r_end ?_
  refine g_seq ?_
  refine g_run (by kernel_rfl) [(0, .d), (1, .d), (2, .d), (3, .d), (4, .d), (5, .w)] rfl ?_
  refine r_d rfl rfl rfl (s_move rfl rfl) ?_
  refine r_d rfl rfl rfl (s_fieldAddr rfl fl_api_Rule_1 rfl rfl rfl rfl) ?_
  refine r_d rfl rfl rfl (s_load rfl rfl (by exact ty_L_api_Atom) rfl) ?_
  refine r_d rfl rfl rfl (s_move rfl rfl) ?_
  refine r_d rfl rfl rfl (s_makeFunc rfl rfl rfl) ?_
  obtain ⟨r_2, hr_2, hr⟩ := bindS hr
  refine r_w rfl rfl rfl (s_call _ rfl cl_snapshot_list_api_Atom (.cons rfl (Wk.refl _) (.cons rfl (Wk.refl _) (.cons rfl (Wk.refl _) (.cons rfl (Wk.refl _) .nil)))) (by exact (pf0 _)) (lg_snapshot_list_s3 fuel _ _ _ _ _ hr_2)) ?_
  rintro _ _ ⟨_, ⟨rfl, rfl⟩, rfl⟩
  refine r_st ((.cell b_o0 (enc_S_snapshot_writer r_2)) :: _) rfl ?_
  refine r_end ?_
  refine g_seq ?_
  refine g_run (by kernel_rfl) [(0, .d), (1, .d), (2, .d), (3, .d), (4, .d), (5, .w)] rfl ?_
  refine r_d rfl rfl rfl (s_move rfl rfl) ?_
  refine r_d rfl rfl rfl (s_fieldAddr rfl fl_api_Rule_2 rfl rfl rfl rfl) ?_
  refine r_d rfl rfl rfl (s_load rfl rfl (by exact ty_L_api_Atom) rfl) ?_
  refine r_d rfl rfl rfl (s_move rfl rfl) ?_
  refine r_d rfl rfl rfl (s_makeFunc rfl rfl rfl) ?_
  obtain ⟨r_3, hr_3, hr⟩ := bindS hr
  refine r_w rfl rfl rfl (s_call _ rfl cl_snapshot_list_api_Atom (.cons rfl (Wk.refl _) (.cons rfl (Wk.refl _) (.cons rfl (Wk.refl _) (.cons rfl (Wk.refl _) .nil)))) (by exact (pf0 _)) (lg_snapshot_list_s3 fuel _ _ _ _ _ hr_3)) ?_
  rintro _ _ ⟨_, ⟨rfl, rfl⟩, rfl⟩
  refine r_st ((.cell b_o0 (enc_S_snapshot_writer r_3)) :: _) rfl ?_
  refine r_end ?_
  refine g_seq ?_
  refine g_run (by kernel_rfl) [(0, .d), (1, .d), (2, .d), (3, .d), (4, .d), (5, .w)] rfl ?_
  refine r_d rfl rfl rfl (s_move rfl rfl) ?_
  refine r_d rfl rfl rfl (s_fieldAddr rfl fl_api_Rule_3 rfl rfl rfl rfl) ?_
  refine r_d rfl rfl rfl (s_load rfl rfl (by exact ty_L_api_Goal) rfl) ?_
  refine r_d rfl rfl rfl (s_move rfl rfl) ?_
  refine r_d rfl rfl rfl (s_makeFunc rfl rfl rfl) ?_
  obtain ⟨r_4, hr_4, hr⟩ := bindS hr
  refine r_w rfl rfl rfl (s_call _ rfl cl_snapshot_list_api_Goal (.cons rfl (Wk.refl _) (.cons rfl (Wk.refl _) (.cons rfl (Wk.refl _) (.cons rfl (Wk.refl _) .nil)))) (by exact (pf0 _)) (lg_snapshot_list_s5 fuel _ _ _ _ _ hr_4)) ?_
  rintro _ _ ⟨_, ⟨rfl, rfl⟩, rfl⟩
  refine r_st ((.cell b_o0 (enc_S_snapshot_writer r_4)) :: _) rfl ?_
  refine r_end ?_
  refine g_seq ?_
  refine g_run (by kernel_rfl) [(0, .d), (1, .d), (2, .d), (3, .d), (4, .d), (5, .w)] rfl ?_
  refine r_d rfl rfl rfl (s_move rfl rfl) ?_
  refine r_d rfl rfl rfl (s_fieldAddr rfl fl_api_Rule_4 rfl rfl rfl rfl) ?_
  refine r_d rfl rfl rfl (s_load rfl rfl (by exact ty_L_api_Goal) rfl) ?_
  refine r_d rfl rfl rfl (s_move rfl rfl) ?_
  refine r_d rfl rfl rfl (s_makeFunc rfl rfl rfl) ?_
  obtain ⟨r_5, hr_5, hr⟩ := bindS hr
  refine r_w rfl rfl rfl (s_call _ rfl cl_snapshot_list_api_Goal (.cons rfl (Wk.refl _) (.cons rfl (Wk.refl _) (.cons rfl (Wk.refl _) (.cons rfl (Wk.refl _) .nil)))) (by exact (pf0 _)) (lg_snapshot_list_s5 fuel _ _ _ _ _ hr_5)) ?_
  rintro _ _ ⟨_, ⟨rfl, rfl⟩, rfl⟩
  refine r_st ((.cell b_o0 (enc_S_snapshot_writer r_5)) :: _) rfl ?_
  refine r_end ?_
  refine g_run (by kernel_rfl) [(0, .d), (1, .d), (2, .d), (3, .w)] rfl ?_
  refine r_d rfl rfl rfl (s_move rfl rfl) ?_
  refine r_d rfl rfl rfl (s_fieldAddr rfl fl_api_Rule_5 rfl rfl rfl rfl) ?_
  refine r_d rfl rfl rfl (s_load rfl rfl (by exact ty_int) rfl) ?_
  obtain ⟨r_6, hr_6, hr⟩ := bindS hr
  refine r_w rfl rfl rfl (s_call _ rfl cl_Psnapshot_writer_number (.cons rfl (Wk.refl _) (.cons rfl (Wk.refl _) (.cons rfl (Wk.refl _) (.cons rfl (Wk.refl _) .nil)))) (by exact (pf0 _)) (lg_Psnapshot_writer_number_s1 _ _ _ _ _ _ hr_6)) ?_
  rintro _ _ ⟨_, ⟨rfl, rfl⟩, rfl⟩
  refine r_st ((.cell b_o0 (enc_S_snapshot_writer r_6)) :: _) rfl ?_
  refine r_end ?_
  obtain rfl := Option.some.inj hr
  refine g_end Tryz.func39 _ .nil ?_
  exact ⟨rfl, rfl⟩

noncomputable def lf_snapshot_list_s2_L0 (k : (S_snapshot_writer) → Option (S_snapshot_writer)) (fuel : Nat) : List S_api_Rule → S_snapshot_writer → Option (S_snapshot_writer)
  | [], w_4 =>
  (k w_4)
  | q_6 :: rest, w_4 =>
  ((lf_Psnapshot_writer_rule_s1 fuel q_6 w_4).bind fun r_8 =>
  (lf_snapshot_list_s2_L0 k fuel rest r_8))
noncomputable def lf_snapshot_list_s2 (fuel : Nat) (l_a1 : (List S_api_Rule)) (most_a2 : Int) (c_0 : S_snapshot_writer) : Option (S_snapshot_writer) :=
  ((lf_Psnapshot_writer_number_s1 (l_a1.length : Int) 0 most_a2 c_0).bind fun r_1 =>
  (bif r_1.f1_bad then
  some (r_1)
  else
  (lf_snapshot_list_s2_L0 (fun w_5 =>
  some (w_5)) fuel l_a1 r_1)))

set_option maxHeartbeats 1000000 in
theorem lg_snapshot_list_s2 (fuel : Nat) (l_a1 : (List S_api_Rule)) (most_a2 : Int) (c_0 : S_snapshot_writer) (b_o0 : Nat) (res : S_snapshot_writer) (hr : lf_snapshot_list_s2 fuel l_a1 most_a2 c_0 = some res) : Spec Tryz.prog 38 [.ref b_o0 0 [], .lst (l_a1.map enc_S_api_Rule), .int .i64 most_a2, .clo (.func 39) [.ref b_o0 0 []] []] [.cell b_o0 (enc_S_snapshot_writer c_0)] (fun d σ => d = .tup [] ∧ σ = [.cell b_o0 (enc_S_snapshot_writer res)]) := by
  unfold lf_snapshot_list_s2 at hr
  refine spec_env [(0, .ref b_o0 0 []), (1, .lst (l_a1.map enc_S_api_Rule)), (2, .int .i64 most_a2), (3, .clo (.func 39) [.ref b_o0 0 []] [])] Tryz.func38 rfl rfl fun K hK => ?_
  refine g_seq ?_
  refine g_run (by kernel_rfl) [(0, .d), (1, .d), (2, .d), (3, .d), (4, .w)] rfl ?_
  refine r_d rfl rfl rfl (s_move rfl rfl) ?_
  refine r_d rfl rfl rfl (s_move rfl rfl) ?_
  refine r_d rfl rfl rfl (m_len (f := enc_S_api_Rule) l_a1 rfl el_L_api_Rule rfl (asl rfl)) ?_
  refine r_d rfl rfl rfl (s_move rfl rfl) ?_
  obtain ⟨r_1, hr_1, hr⟩ := bindS hr
  refine r_w rfl rfl rfl (s_call _ rfl cl_Psnapshot_writer_number (.cons rfl (Wk.refl _) (.cons rfl (Wk.refl _) (.cons rfl (Wk.refl _) (.cons rfl (Wk.refl _) .nil)))) (by exact (pf0 _)) (lg_Psnapshot_writer_number_s1 _ _ _ _ _ _ hr_1)) ?_
  rintro _ _ ⟨_, ⟨rfl, rfl⟩, rfl⟩
  refine r_st ((.cell b_o0 (enc_S_snapshot_writer r_1)) :: _) rfl ?_
  refine r_end ?_
  refine g_seq ?_
  refine g_seq ?_
  refine g_run (by kernel_rfl) [(0, .d), (1, .d), (2, .d), (3, .r)] rfl ?_
  refine r_d rfl rfl rfl (s_move rfl rfl) ?_
  refine r_d rfl rfl rfl (s_nilCheckR rfl rfl) ?_
  refine r_d rfl rfl rfl (s_fieldRef rfl fl_snapshot_writer_1 rfl) ?_
  refine r_r rfl rfl rfl (t_loadRef rfl rfl (.head _) rfl rfl (by exact ty_bool) rfl) ?_
  refine r_end ?_
  refine g_sB 18 rfl hr (fun h18_1 hr => ?_) (fun h18_1 hr => ?_)
  ·
   refine g_condT rfl ?_
   obtain rfl := Option.some.inj hr
   refine g_ret Tryz.func38 _ .nil ?_
   exact ⟨rfl, rfl⟩
  ·
   refine g_condF rfl ?_
   refine g_skip ?_
   refine g_seq ?_
   refine g_run (by kernel_rfl) [(0, .d), (1, .d), (2, .d)] rfl ?_
   refine r_d rfl rfl rfl (s_move rfl rfl) ?_
   refine r_d rfl rfl rfl (m_len (f := enc_S_api_Rule) l_a1 rfl el_L_api_Rule rfl (asl rfl)) ?_
   refine r_d rfl rfl rfl (s_move rfl rfl) ?_
   refine r_end ?_
   obtain ⟨kk0, hkk0, hr⟩ := exK (fun k => lf_snapshot_list_s2_L0 k fuel l_a1 r_1) hr
   refine g_len 1 rfl (asl rfl) fun hla0 => ?_
   simp only [List.length_map] at hla0
   refine g_blockJ (fun env σ => ∃ (w_5 : S_snapshot_writer), env = [] ∧ σ = [.cell b_o0 (enc_S_snapshot_writer w_5)] ∧ kk0 w_5 = some res) ?_ (fun HK0 => ?_)
   ·
    rintro _ _ ⟨w_5, rfl, rfl, hr⟩
    rw [hkk0] at hr
    obtain rfl := Option.some.inj hr
    refine g_end Tryz.func38 _ .nil ?_
    exact ⟨rfl, rfl⟩
   ·
    refine g_sub [(3, .clo (.func 39) [.ref b_o0 0 []] []), (19, .lst (l_a1.map enc_S_api_Rule)), (20, .int .i64 (l_a1.length : Int)), (21, .int .i64 ((0 : Nat) : Int))] (Sub.cons' rfl (Sub.cons' rfl (Sub.cons' rfl (Sub.cons' rfl (Sub.nil _))))) ?_
    refine g_loop (fun n env σ => ∃ (i_3 : Nat) (w_4 : S_snapshot_writer), (n = l_a1.length - i_3) ∧ (env = [(3, .clo (.func 39) [.ref b_o0 0 []] []), (19, .lst (l_a1.map enc_S_api_Rule)), (20, .int .i64 (l_a1.length : Int)), (21, .int .i64 (i_3 : Int))]) ∧ (σ = [.cell b_o0 (enc_S_snapshot_writer w_4)]) ∧ (i_3 ≤ l_a1.length) ∧ (lf_snapshot_list_s2_L0 kk0 fuel (l_a1.drop i_3) w_4 = some res)) _ ⟨0, r_1, rfl, rfl, rfl, Nat.zero_le _, hr⟩ ?_
    rintro n _ _ ⟨i_3, w_4, rfl, rfl, rfl, hi0, hr⟩ IH0
    rcases listStep l_a1 i_3 hi0 with ⟨ht0, hd0, he0⟩ | ⟨q_6, ht0, hd0, hq0, hlt0⟩
    ·
     rw [hd0, lf_snapshot_list_s2_L0] at hr
     refine g_seq ?_
     refine g_run (by kernel_rfl) [(0, .d)] rfl ?_
     refine r_d rfl rfl rfl (s_cmp rfl rfl rfl rfl) ?_
     refine r_end ?_
     refine g_seq ?_
     refine g_known 22 false rfl ht0 ?_
     refine g_condF rfl ?_
     refine g_exit rfl ?_
     refine g_sub [] (Sub.nil _) ?_
     exact HK0 _ _ ⟨w_4, rfl, rfl, hr⟩
    ·
     rw [hd0, lf_snapshot_list_s2_L0] at hr
     refine g_seq ?_
     refine g_run (by kernel_rfl) [(0, .d)] rfl ?_
     refine r_d rfl rfl rfl (s_cmp rfl rfl rfl rfl) ?_
     refine r_end ?_
     refine g_seq ?_
     refine g_known 22 true rfl ht0 ?_
     refine g_condT rfl ?_
     refine g_skip ?_
     refine g_seq ?_
     refine g_block ?_
     refine g_seq ?_
     refine g_run (by kernel_rfl) [(0, .d), (1, .d), (2, .w), (3, .w)] rfl ?_
     refine r_d rfl rfl rfl (m_index (f := enc_S_api_Rule) l_a1 rfl el_L_api_Rule rfl (asl rfl) rfl hq0 sz_S_api_Rule rfl) ?_
     refine r_d rfl rfl rfl (s_load rfl rfl (by exact ty_api_Rule) (sz_S_api_Rule _)) ?_
     refine r_w rfl rfl rfl (s_alloc rfl zv_api_Rule) ?_
     rintro _ _ ⟨b9_6, rfl, rfl⟩
     refine r_w01 rfl rfl rfl (t_store0 _ rfl rfl rfl (Wk.refl _) (pf0 _) (by exact ty_api_Rule) (sz_S_api_Rule _) rfl rfl) ?_
     refine r_end ?_
     refine g_freeze 9 b9_6 rfl (pf0 _) ?_
     refine g_run (by kernel_rfl) [(0, .d), (1, .d), (2, .w)] rfl ?_
     refine r_d rfl rfl rfl (s_move rfl rfl) ?_
     refine r_d rfl rfl rfl (s_load rfl rfl (by exact ty_api_Rule) (sz_S_api_Rule _)) ?_
     obtain ⟨r_8, hr_8, hr⟩ := bindS hr
     refine r_w rfl rfl rfl (s_callV _ rfl rfl cl_Psnapshot_writer_rule (.cons rfl (Wk.refl _) .nil) rfl (by exact (pf0 _)) (lg_Psnapshot_writer_rule_s1 fuel _ _ _ _ hr_8)) ?_
     rintro _ _ ⟨_, ⟨rfl, rfl⟩, rfl⟩
     refine r_st ((.cell b_o0 (enc_S_snapshot_writer r_8)) :: _) rfl ?_
     refine r_end ?_
     refine g_inBlock ?_
     refine g_run (by kernel_rfl) [(0, .d), (1, .d)] rfl ?_
     refine r_d rfl rfl rfl (s_ar (r := ((i_3 + 1 : Nat) : Int)) rfl rfl rfl (by simp [iar]) (by omega)) ?_
     refine r_d rfl rfl rfl (s_move rfl rfl) ?_
     refine r_end ?_
     refine g_sub [(3, .clo (.func 39) [.ref b_o0 0 []] []), (19, .lst (l_a1.map enc_S_api_Rule)), (20, .int .i64 (l_a1.length : Int)), (21, .int .i64 ((i_3 + 1 : Nat) : Int))] (Sub.cons' rfl (Sub.cons' rfl (Sub.cons' rfl (Sub.cons' rfl (Sub.nil _))))) ?_
     exact IH0 _ _ _ (by omega) ⟨(i_3 + 1), r_8, rfl, rfl, rfl, (by omega), hr⟩

noncomputable def lf_Psnapshot_writer_out_s1 (c_0 : S_snapshot_writer) : Option ((List Int)) :=
  (bif c_0.f1_bad then
  some ([])
  else
  some (c_0.f0_b))

set_option maxHeartbeats 1000000 in
theorem lg_Psnapshot_writer_out_s1 (c_0 : S_snapshot_writer) (b_o0 : Nat) (res : (List Int)) (hr : lf_Psnapshot_writer_out_s1 c_0 = some res) : Spec Tryz.prog 40 [.ref b_o0 0 []] [.cell b_o0 (enc_S_snapshot_writer c_0)] (fun d σ => d = .lst (res.map (D.int .u8)) ∧ σ = [.cell b_o0 (enc_S_snapshot_writer c_0)]) := by
  unfold lf_Psnapshot_writer_out_s1 at hr
  refine spec_env [(0, .ref b_o0 0 [])] Tryz.func40 rfl rfl fun K hK => ?_
  refine g_seq ?_
  refine g_run (by kernel_rfl) [(0, .d)] rfl ?_
  refine r_d rfl rfl rfl (s_assign rfl rfl) ?_
  refine r_end ?_
  refine g_seq ?_
  refine g_seq ?_
  refine g_run (by kernel_rfl) [(0, .d), (1, .d), (2, .d), (3, .r)] rfl ?_
  refine r_d rfl rfl rfl (s_move rfl rfl) ?_
  refine r_d rfl rfl rfl (s_nilCheckR rfl rfl) ?_
  refine r_d rfl rfl rfl (s_fieldRef rfl fl_snapshot_writer_1 rfl) ?_
  refine r_r rfl rfl rfl (t_loadRef rfl rfl (.head _) rfl rfl (by exact ty_bool) rfl) ?_
  refine r_end ?_
  refine g_sB 6 rfl hr (fun h6_0 hr => ?_) (fun h6_0 hr => ?_)
  ·
   refine g_condT rfl ?_
   refine g_seq ?_
   refine g_run (by kernel_rfl) [(0, .d)] rfl ?_
   refine r_d rfl rfl rfl (s_assign rfl rfl) ?_
   refine r_end ?_
   obtain rfl := Option.some.inj hr
   refine g_ret Tryz.func40 _ (.cons (resTmp rfl (Wk.full _)) .nil) ?_
   exact ⟨rfl, rfl⟩
  ·
   refine g_condF rfl ?_
   refine g_skip ?_
   refine g_seq ?_
   refine g_run (by kernel_rfl) [(0, .d), (1, .d), (2, .d), (3, .r), (4, .d)] rfl ?_
   refine r_d rfl rfl rfl (s_move rfl rfl) ?_
   refine r_d rfl rfl rfl (s_nilCheckR rfl rfl) ?_
   refine r_d rfl rfl rfl (s_fieldRef rfl fl_snapshot_writer_0 rfl) ?_
   refine r_r rfl rfl rfl (t_loadRef rfl rfl (.head _) rfl rfl (by exact ty_L_uint8) rfl) ?_
   refine r_d rfl rfl rfl (s_assign rfl rfl) ?_
   refine r_end ?_
   obtain rfl := Option.some.inj hr
   refine g_ret Tryz.func40 _ (.cons (resTmp rfl (Wk.refl _)) .nil) ?_
   exact ⟨rfl, rfl⟩

noncomputable def lf_snapshot_Program (fuel : Nat) (p_a0 : S_api_Program) : Option ((List Int)) :=
  ((lf_Psnapshot_writer_number_s1 1 1 1 (⟨[], false⟩ : S_snapshot_writer)).bind fun r_3 =>
  ((lf_snapshot_list_s1 p_a0.f0_Decls 30 r_3).bind fun r_4 =>
  ((lf_snapshot_list_s2 fuel p_a0.f1_Rules 40 r_4).bind fun r_5 =>
  ((lf_Psnapshot_writer_out_s1 r_5).bind fun r_6 =>
  some (r_6)))))

set_option maxHeartbeats 1000000 in
theorem lg_snapshot_Program (fuel : Nat) (p_a0 : S_api_Program) (res : (List Int)) (hr : lf_snapshot_Program fuel p_a0 = some res) : Gives Tryz.prog 11 [enc_S_api_Program p_a0] (.lst (res.map (D.int .u8))) := by
  unfold lf_snapshot_Program at hr
  refine spec_env [(0, enc_S_api_Program p_a0)] Tryz.func11 rfl rfl fun K hK => ?_
  refine g_seq ?_
  refine g_run (by kernel_rfl) [(0, .d), (1, .d)] rfl ?_
  refine r_d rfl rfl rfl (s_box rfl rfl rfl) ?_
  refine r_d rfl rfl rfl (s_assign rfl rfl) ?_
  refine r_end ?_
  refine g_seq ?_
  refine g_run (by kernel_rfl) [(0, .d), (1, .w), (2, .w), (3, .w)] rfl ?_
  refine r_d rfl rfl rfl (s_build rfl bt_snapshot_writer .nil (.nil _)) ?_
  refine r_w rfl rfl rfl (s_boxRef rfl rfl rfl) ?_
  rintro _ _ ⟨b5_0, rfl, rfl⟩
  refine r_w rfl rfl rfl (s_alloc rfl zvx_P_snapshot_writer) ?_
  rintro _ _ ⟨b3_1, rfl, rfl⟩
  refine r_w01 rfl rfl rfl (t_store0 _ rfl rfl rfl (Wk.refl _) (pf0 _) (by exact ty_P_snapshot_writer) rfl rfl rfl) ?_
  refine r_end ?_
  refine g_freeze 3 b3_1 rfl (pf0 _) ?_
  refine g_seq ?_
  refine g_run (by kernel_rfl) [(0, .d), (1, .w)] rfl ?_
  refine r_d rfl rfl rfl (s_load rfl rfl (by exact ty_P_snapshot_writer) rfl) ?_
  obtain ⟨r_3, hr_3, hr⟩ := bindS hr
  refine r_w rfl rfl rfl (s_call _ rfl cl_Psnapshot_writer_number (.cons rfl (Wk.refl _) (.cons rfl (Wk.refl _) (.cons rfl (Wk.refl _) (.cons rfl (Wk.refl _) .nil)))) (by exact (pf0 _)) (lg_Psnapshot_writer_number_s1 _ _ _ _ _ _ hr_3)) ?_
  rintro _ _ ⟨_, ⟨rfl, rfl⟩, rfl⟩
  refine r_st ((.cell b5_0 (enc_S_snapshot_writer r_3)) :: _) rfl ?_
  refine r_end ?_
  refine g_seq ?_
  refine g_run (by kernel_rfl) [(0, .d), (1, .d), (2, .d), (3, .d), (4, .w)] rfl ?_
  refine r_d rfl rfl rfl (s_load rfl rfl (by exact ty_P_snapshot_writer) rfl) ?_
  refine r_d rfl rfl rfl (s_fieldAddr rfl fl_api_Program_0 rfl rfl rfl rfl) ?_
  refine r_d rfl rfl rfl (s_load rfl rfl (by exact ty_L_api_Decl) rfl) ?_
  refine r_d rfl rfl rfl (s_makeFunc rfl rfl rfl) ?_
  obtain ⟨r_4, hr_4, hr⟩ := bindS hr
  refine r_w rfl rfl rfl (s_call _ rfl cl_snapshot_list_api_Decl (.cons rfl (Wk.refl _) (.cons rfl (Wk.refl _) (.cons rfl (Wk.refl _) (.cons rfl (Wk.refl _) .nil)))) (by exact (pf0 _)) (lg_snapshot_list_s1 _ _ _ _ _ hr_4)) ?_
  rintro _ _ ⟨_, ⟨rfl, rfl⟩, rfl⟩
  refine r_st ((.cell b5_0 (enc_S_snapshot_writer r_4)) :: _) rfl ?_
  refine r_end ?_
  refine g_seq ?_
  refine g_run (by kernel_rfl) [(0, .d), (1, .d), (2, .d), (3, .d), (4, .d), (5, .w)] rfl ?_
  refine r_d rfl rfl rfl (s_load rfl rfl (by exact ty_P_snapshot_writer) rfl) ?_
  refine r_d rfl rfl rfl (s_fieldAddr rfl fl_api_Program_1 rfl rfl rfl rfl) ?_
  refine r_d rfl rfl rfl (s_load rfl rfl (by exact ty_L_api_Rule) rfl) ?_
  refine r_d rfl rfl rfl (s_load rfl rfl (by exact ty_P_snapshot_writer) rfl) ?_
  refine r_d rfl rfl rfl (s_makeFunc rfl rfl rfl) ?_
  obtain ⟨r_5, hr_5, hr⟩ := bindS hr
  refine r_w rfl rfl rfl (s_call _ rfl cl_snapshot_list_api_Rule (.cons rfl (Wk.refl _) (.cons rfl (Wk.refl _) (.cons rfl (Wk.refl _) (.cons rfl (Wk.refl _) .nil)))) (by exact (pf0 _)) (lg_snapshot_list_s2 fuel _ _ _ _ _ hr_5)) ?_
  rintro _ _ ⟨_, ⟨rfl, rfl⟩, rfl⟩
  refine r_st ((.cell b5_0 (enc_S_snapshot_writer r_5)) :: _) rfl ?_
  refine r_end ?_
  refine g_seq ?_
  refine g_run (by kernel_rfl) [(0, .d), (1, .w), (2, .d)] rfl ?_
  refine r_d rfl rfl rfl (s_load rfl rfl (by exact ty_P_snapshot_writer) rfl) ?_
  obtain ⟨r_6, hr_6, hr⟩ := bindS hr
  refine r_w rfl rfl rfl (s_call _ rfl cl_Psnapshot_writer_out (.cons rfl (Wk.refl _) .nil) (by exact (pf0 _)) (lg_Psnapshot_writer_out_s1 _ _ _ hr_6)) ?_
  rintro _ _ ⟨_, ⟨rfl, rfl⟩, rfl⟩
  refine r_st ((.cell b5_0 (enc_S_snapshot_writer r_5)) :: _) rfl ?_
  refine r_d rfl rfl rfl (s_assign rfl rfl) ?_
  refine r_end ?_
  obtain rfl := Option.some.inj hr
  refine g_ret Tryz.func11 _ (.cons (resTmp rfl (Wk.refl _)) .nil) ?_
  rfl

noncomputable def lf_Psnapshot_writer_frame_s1 (fuel : Nat) (f_a1 : S_api_Frame) (c_0 : S_snapshot_writer) : Option (S_snapshot_writer) :=
  ((lf_Psnapshot_writer_number_s1 f_a1.f1_ID 0 2147483648 c_0).bind fun r_1 =>
  ((lf_Psnapshot_writer_number_s1 f_a1.f2_Occ (-1) 2147483648 r_1).bind fun r_2 =>
  (bif (f_a1.f1_ID == (0 : Int)) then
  ((lf_Psnapshot_writer_goal_s1 fuel f_a1.f0_Goal r_2).bind fun r_4 =>
  some (r_4))
  else
  (bif r_2.f1_bad then
  some ((⟨r_2.f0_b, true⟩ : S_snapshot_writer))
  else
  (bif (f_a1.f0_Goal.op != (0 : Int)) then
  some ((⟨r_2.f0_b, true⟩ : S_snapshot_writer))
  else
  (bif (!(f_a1.f0_Goal.n.toList == (⟨#[]⟩ : ByteArray).toList)) then
  some ((⟨r_2.f0_b, true⟩ : S_snapshot_writer))
  else
  some ((⟨r_2.f0_b, (decide ((f_a1.f0_Goal.ts.length : Int) > (0 : Int)))⟩ : S_snapshot_writer))))))))

set_option maxHeartbeats 1000000 in
theorem lg_Psnapshot_writer_frame_s1 (fuel : Nat) (f_a1 : S_api_Frame) (c_0 : S_snapshot_writer) (b_o0 : Nat) (res : S_snapshot_writer) (hr : lf_Psnapshot_writer_frame_s1 fuel f_a1 c_0 = some res) : Spec Tryz.prog 59 [.ref b_o0 0 [], enc_S_api_Frame f_a1] [.cell b_o0 (enc_S_snapshot_writer c_0)] (fun d σ => d = .tup [] ∧ σ = [.cell b_o0 (enc_S_snapshot_writer res)]) := by
  unfold lf_Psnapshot_writer_frame_s1 at hr
  refine spec_env [(0, .ref b_o0 0 []), (1, enc_S_api_Frame f_a1)] Tryz.func59 rfl rfl fun K hK => ?_
  refine g_seq ?_
  refine g_run (by kernel_rfl) [(0, .d)] rfl ?_
  refine r_d rfl rfl rfl (s_box rfl rfl rfl) ?_
  refine r_end ?_
  refine g_seq ?_
  refine g_run (by kernel_rfl) [(0, .d), (1, .d), (2, .d), (3, .w)] rfl ?_
  refine r_d rfl rfl rfl (s_move rfl rfl) ?_
  refine r_d rfl rfl rfl (s_fieldAddr rfl fl_api_Frame_1 rfl rfl (by simp [szs, sz, sz_encG]) rfl) ?_
  refine r_d rfl rfl rfl (s_load rfl rfl (by exact ty_int) rfl) ?_
  obtain ⟨r_1, hr_1, hr⟩ := bindS hr
  refine r_w rfl rfl rfl (s_call _ rfl cl_Psnapshot_writer_number (.cons rfl (Wk.refl _) (.cons rfl (Wk.refl _) (.cons rfl (Wk.refl _) (.cons rfl (Wk.refl _) .nil)))) (by exact (pf0 _)) (lg_Psnapshot_writer_number_s1 _ _ _ _ _ _ hr_1)) ?_
  rintro _ _ ⟨_, ⟨rfl, rfl⟩, rfl⟩
  refine r_st ((.cell b_o0 (enc_S_snapshot_writer r_1)) :: _) rfl ?_
  refine r_end ?_
  refine g_seq ?_
  refine g_run (by kernel_rfl) [(0, .d), (1, .d), (2, .d), (3, .w)] rfl ?_
  refine r_d rfl rfl rfl (s_move rfl rfl) ?_
  refine r_d rfl rfl rfl (s_fieldAddr rfl fl_api_Frame_2 rfl rfl (by simp [szs, sz, sz_encG]) rfl) ?_
  refine r_d rfl rfl rfl (s_load rfl rfl (by exact ty_int) rfl) ?_
  obtain ⟨r_2, hr_2, hr⟩ := bindS hr
  refine r_w rfl rfl rfl (s_call _ rfl cl_Psnapshot_writer_number (.cons rfl (Wk.refl _) (.cons rfl (Wk.refl _) (.cons rfl (Wk.refl _) (.cons rfl (Wk.refl _) .nil)))) (by exact (pf0 _)) (lg_Psnapshot_writer_number_s1 _ _ _ _ _ _ hr_2)) ?_
  rintro _ _ ⟨_, ⟨rfl, rfl⟩, rfl⟩
  refine r_st ((.cell b_o0 (enc_S_snapshot_writer r_2)) :: _) rfl ?_
  refine r_end ?_
  refine g_seq ?_
  refine g_seq ?_
  refine g_run (by kernel_rfl) [(0, .d), (1, .d), (2, .d)] rfl ?_
  refine r_d rfl rfl rfl (s_fieldAddr rfl fl_api_Frame_1 rfl rfl (by simp [szs, sz, sz_encG]) rfl) ?_
  refine r_d rfl rfl rfl (s_load rfl rfl (by exact ty_int) rfl) ?_
  refine r_d rfl rfl rfl (s_cmp rfl rfl rfl rfl) ?_
  refine r_end ?_
  refine g_sB 14 rfl hr (fun h14_2 hr => ?_) (fun h14_2 hr => ?_)
  ·
   refine g_condT rfl ?_
   refine g_seq ?_
   refine g_run (by kernel_rfl) [(0, .d), (1, .d), (2, .d), (3, .w)] rfl ?_
   refine r_d rfl rfl rfl (s_move rfl rfl) ?_
   refine r_d rfl rfl rfl (s_fieldAddr rfl fl_api_Frame_0 rfl rfl rfl rfl) ?_
   refine r_d rfl rfl rfl (s_load rfl rfl (by exact ty_api_Goal) (sz_encG _)) ?_
   obtain ⟨r_4, hr_4, hr⟩ := bindS hr
   refine r_w rfl rfl rfl (s_call _ rfl cl_Psnapshot_writer_goal (.cons rfl (Wk.refl _) (.cons rfl (Wk.refl _) .nil)) (by exact (pf0 _)) (lg_Psnapshot_writer_goal_s1 fuel _ _ _ _ hr_4)) ?_
   rintro _ _ ⟨_, ⟨rfl, rfl⟩, rfl⟩
   refine r_st ((.cell b_o0 (enc_S_snapshot_writer r_4)) :: _) rfl ?_
   refine r_end ?_
   obtain rfl := Option.some.inj hr
   refine g_ret Tryz.func59 _ .nil ?_
   exact ⟨rfl, rfl⟩
  ·
   refine g_condF rfl ?_
   refine g_skip ?_
   refine g_run (by kernel_rfl) [(0, .d), (1, .d), (2, .d), (3, .d), (4, .r), (5, .d), (6, .d), (7, .d), (8, .d), (9, .d), (10, .d), (11, .d), (12, .d), (13, .d), (14, .d), (15, .d), (16, .d), (17, .d), (18, .d), (19, .d), (20, .d), (21, .d), (22, .d), (23, .d), (24, .d), (25, .d), (26, .w)] rfl ?_
   refine r_d rfl rfl rfl (s_move rfl rfl) ?_
   refine r_d rfl rfl rfl (s_move rfl rfl) ?_
   refine r_d rfl rfl rfl (s_nilCheckR rfl rfl) ?_
   refine r_d rfl rfl rfl (s_fieldRef rfl fl_snapshot_writer_1 rfl) ?_
   refine r_r rfl rfl rfl (t_loadRef rfl rfl (.head _) rfl rfl (by exact ty_bool) rfl) ?_
   refine r_d rfl rfl rfl (s_move rfl rfl) ?_
   refine r_sB 24 rfl hr (fun h24_4 hr => ?_) (fun h24_4 hr => ?_)
   ·
    refine r_skip rfl rfl rfl ?_
    refine r_skip rfl rfl rfl ?_
    refine r_skip rfl rfl rfl ?_
    refine r_skip rfl rfl rfl ?_
    refine r_d rfl rfl rfl (s_pickT rfl rfl rfl) ?_
    refine r_d rfl rfl rfl (s_move rfl rfl) ?_
    refine r_skip rfl rfl rfl ?_
    refine r_skip rfl rfl rfl ?_
    refine r_skip rfl rfl rfl ?_
    refine r_skip rfl rfl rfl ?_
    refine r_d rfl rfl rfl (s_pickT rfl rfl rfl) ?_
    refine r_d rfl rfl rfl (s_move rfl rfl) ?_
    refine r_skip rfl rfl rfl ?_
    refine r_skip rfl rfl rfl ?_
    refine r_skip rfl rfl rfl ?_
    refine r_skip rfl rfl rfl ?_
    refine r_skip rfl rfl rfl ?_
    refine r_d rfl rfl rfl (s_pickT rfl rfl rfl) ?_
    refine r_d rfl rfl rfl (s_nilCheckR rfl rfl) ?_
    refine r_d rfl rfl rfl (s_fieldRef rfl fl_snapshot_writer_1 rfl) ?_
    refine r_w01 rfl rfl rfl (t_store _ rfl rfl rfl (Wk.refl _) (pf0 _) rfl rfl (by exact ty_bool) rfl rfl rfl) ?_
    refine r_end ?_
    obtain rfl := Option.some.inj hr
    refine g_end Tryz.func59 _ .nil ?_
    exact ⟨rfl, rfl⟩
   ·
    refine r_d rfl rfl rfl (s_fieldAddr rfl fl_api_Frame_0 rfl rfl rfl rfl) ?_
    refine r_d rfl rfl rfl (s_fieldAddr rfl fl_api_Goal_0 rfl rfl rfl rfl) ?_
    refine r_d rfl rfl rfl (s_load rfl rfl (by exact ty_int) rfl) ?_
    refine r_d rfl rfl rfl (s_cmp rfl rfl rfl rfl) ?_
    refine r_d rfl rfl rfl (s_pickF rfl rfl rfl) ?_
    refine r_d rfl rfl rfl (s_move rfl rfl) ?_
    refine r_sB 30 rfl hr (fun h30_5 hr => ?_) (fun h30_5 hr => ?_)
    ·
     refine r_skip rfl rfl rfl ?_
     refine r_skip rfl rfl rfl ?_
     refine r_skip rfl rfl rfl ?_
     refine r_skip rfl rfl rfl ?_
     refine r_d rfl rfl rfl (s_pickT rfl rfl rfl) ?_
     refine r_d rfl rfl rfl (s_move rfl rfl) ?_
     refine r_skip rfl rfl rfl ?_
     refine r_skip rfl rfl rfl ?_
     refine r_skip rfl rfl rfl ?_
     refine r_skip rfl rfl rfl ?_
     refine r_skip rfl rfl rfl ?_
     refine r_d rfl rfl rfl (s_pickT rfl rfl rfl) ?_
     refine r_d rfl rfl rfl (s_nilCheckR rfl rfl) ?_
     refine r_d rfl rfl rfl (s_fieldRef rfl fl_snapshot_writer_1 rfl) ?_
     refine r_w01 rfl rfl rfl (t_store _ rfl rfl rfl (Wk.refl _) (pf0 _) rfl rfl (by exact ty_bool) rfl rfl rfl) ?_
     refine r_end ?_
     obtain rfl := Option.some.inj hr
     refine g_end Tryz.func59 _ .nil ?_
     exact ⟨rfl, rfl⟩
    ·
     refine r_d rfl rfl rfl (s_fieldAddr rfl fl_api_Frame_0 rfl rfl rfl rfl) ?_
     refine r_d rfl rfl rfl (s_fieldAddr rfl fl_api_Goal_1 rfl rfl rfl rfl) ?_
     refine r_d rfl rfl rfl (s_load rfl rfl (by exact ty_string) rfl) ?_
     refine r_d rfl rfl rfl (s_cmpS rfl rfl rfl rfl) ?_
     refine r_d rfl rfl rfl (s_pickF rfl rfl rfl) ?_
     refine r_d rfl rfl rfl (s_move rfl rfl) ?_
     refine r_sB 36 rfl hr (fun h36_6 hr => ?_) (fun h36_6 hr => ?_)
     ·
      refine r_skip rfl rfl rfl ?_
      refine r_skip rfl rfl rfl ?_
      refine r_skip rfl rfl rfl ?_
      refine r_skip rfl rfl rfl ?_
      refine r_skip rfl rfl rfl ?_
      refine r_d rfl rfl rfl (s_pickT rfl rfl rfl) ?_
      refine r_d rfl rfl rfl (s_nilCheckR rfl rfl) ?_
      refine r_d rfl rfl rfl (s_fieldRef rfl fl_snapshot_writer_1 rfl) ?_
      refine r_w01 rfl rfl rfl (t_store _ rfl rfl rfl (Wk.refl _) (pf0 _) rfl rfl (by exact ty_bool) rfl rfl rfl) ?_
      refine r_end ?_
      obtain rfl := Option.some.inj hr
      refine g_end Tryz.func59 _ .nil ?_
      exact ⟨rfl, rfl⟩
     ·
      refine r_d rfl rfl rfl (s_fieldAddr rfl fl_api_Frame_0 rfl rfl rfl rfl) ?_
      refine r_d rfl rfl rfl (s_fieldAddr rfl fl_api_Goal_2 rfl rfl rfl rfl) ?_
      refine r_d rfl rfl rfl (s_load rfl rfl (by exact ty_L_api_Term) rfl) ?_
      refine r_d rfl rfl rfl (m_len (f := encT) f_a1.f0_Goal.ts rfl el_L_api_Term rfl (asl rfl)) ?_
      refine r_d rfl rfl rfl (s_cmp rfl rfl rfl rfl) ?_
      refine r_d rfl rfl rfl (s_pickF rfl rfl rfl) ?_
      refine r_d rfl rfl rfl (s_nilCheckR rfl rfl) ?_
      refine r_d rfl rfl rfl (s_fieldRef rfl fl_snapshot_writer_1 rfl) ?_
      refine r_w01 rfl rfl rfl (t_store _ rfl rfl rfl (Wk.refl _) (pf0 _) rfl rfl (by exact ty_bool) rfl rfl rfl) ?_
      refine r_end ?_
      obtain rfl := Option.some.inj hr
      refine g_end Tryz.func59 _ .nil ?_
      exact ⟨rfl, rfl⟩

noncomputable def lf_snapshot_list_s6_L0 (k : (S_snapshot_writer) → Option (S_snapshot_writer)) (fuel : Nat) : List S_api_Frame → S_snapshot_writer → Option (S_snapshot_writer)
  | [], w_4 =>
  (k w_4)
  | q_6 :: rest, w_4 =>
  ((lf_Psnapshot_writer_frame_s1 fuel q_6 w_4).bind fun r_8 =>
  (lf_snapshot_list_s6_L0 k fuel rest r_8))
noncomputable def lf_snapshot_list_s6 (fuel : Nat) (l_a1 : (List S_api_Frame)) (most_a2 : Int) (c_0 : S_snapshot_writer) : Option (S_snapshot_writer) :=
  ((lf_Psnapshot_writer_number_s1 (l_a1.length : Int) 0 most_a2 c_0).bind fun r_1 =>
  (bif r_1.f1_bad then
  some (r_1)
  else
  (lf_snapshot_list_s6_L0 (fun w_5 =>
  some (w_5)) fuel l_a1 r_1)))

set_option maxHeartbeats 1000000 in
theorem lg_snapshot_list_s6 (fuel : Nat) (l_a1 : (List S_api_Frame)) (most_a2 : Int) (c_0 : S_snapshot_writer) (b_o0 : Nat) (res : S_snapshot_writer) (hr : lf_snapshot_list_s6 fuel l_a1 most_a2 c_0 = some res) : Spec Tryz.prog 58 [.ref b_o0 0 [], .lst (l_a1.map enc_S_api_Frame), .int .i64 most_a2, .clo (.func 59) [.ref b_o0 0 []] []] [.cell b_o0 (enc_S_snapshot_writer c_0)] (fun d σ => d = .tup [] ∧ σ = [.cell b_o0 (enc_S_snapshot_writer res)]) := by
  unfold lf_snapshot_list_s6 at hr
  refine spec_env [(0, .ref b_o0 0 []), (1, .lst (l_a1.map enc_S_api_Frame)), (2, .int .i64 most_a2), (3, .clo (.func 59) [.ref b_o0 0 []] [])] Tryz.func58 rfl rfl fun K hK => ?_
  refine g_seq ?_
  refine g_run (by kernel_rfl) [(0, .d), (1, .d), (2, .d), (3, .d), (4, .w)] rfl ?_
  refine r_d rfl rfl rfl (s_move rfl rfl) ?_
  refine r_d rfl rfl rfl (s_move rfl rfl) ?_
  refine r_d rfl rfl rfl (m_len (f := enc_S_api_Frame) l_a1 rfl el_L_api_Frame rfl (asl rfl)) ?_
  refine r_d rfl rfl rfl (s_move rfl rfl) ?_
  obtain ⟨r_1, hr_1, hr⟩ := bindS hr
  refine r_w rfl rfl rfl (s_call _ rfl cl_Psnapshot_writer_number (.cons rfl (Wk.refl _) (.cons rfl (Wk.refl _) (.cons rfl (Wk.refl _) (.cons rfl (Wk.refl _) .nil)))) (by exact (pf0 _)) (lg_Psnapshot_writer_number_s1 _ _ _ _ _ _ hr_1)) ?_
  rintro _ _ ⟨_, ⟨rfl, rfl⟩, rfl⟩
  refine r_st ((.cell b_o0 (enc_S_snapshot_writer r_1)) :: _) rfl ?_
  refine r_end ?_
  refine g_seq ?_
  refine g_seq ?_
  refine g_run (by kernel_rfl) [(0, .d), (1, .d), (2, .d), (3, .r)] rfl ?_
  refine r_d rfl rfl rfl (s_move rfl rfl) ?_
  refine r_d rfl rfl rfl (s_nilCheckR rfl rfl) ?_
  refine r_d rfl rfl rfl (s_fieldRef rfl fl_snapshot_writer_1 rfl) ?_
  refine r_r rfl rfl rfl (t_loadRef rfl rfl (.head _) rfl rfl (by exact ty_bool) rfl) ?_
  refine r_end ?_
  refine g_sB 18 rfl hr (fun h18_1 hr => ?_) (fun h18_1 hr => ?_)
  ·
   refine g_condT rfl ?_
   obtain rfl := Option.some.inj hr
   refine g_ret Tryz.func58 _ .nil ?_
   exact ⟨rfl, rfl⟩
  ·
   refine g_condF rfl ?_
   refine g_skip ?_
   refine g_seq ?_
   refine g_run (by kernel_rfl) [(0, .d), (1, .d), (2, .d)] rfl ?_
   refine r_d rfl rfl rfl (s_move rfl rfl) ?_
   refine r_d rfl rfl rfl (m_len (f := enc_S_api_Frame) l_a1 rfl el_L_api_Frame rfl (asl rfl)) ?_
   refine r_d rfl rfl rfl (s_move rfl rfl) ?_
   refine r_end ?_
   obtain ⟨kk0, hkk0, hr⟩ := exK (fun k => lf_snapshot_list_s6_L0 k fuel l_a1 r_1) hr
   refine g_len 1 rfl (asl rfl) fun hla0 => ?_
   simp only [List.length_map] at hla0
   refine g_blockJ (fun env σ => ∃ (w_5 : S_snapshot_writer), env = [] ∧ σ = [.cell b_o0 (enc_S_snapshot_writer w_5)] ∧ kk0 w_5 = some res) ?_ (fun HK0 => ?_)
   ·
    rintro _ _ ⟨w_5, rfl, rfl, hr⟩
    rw [hkk0] at hr
    obtain rfl := Option.some.inj hr
    refine g_end Tryz.func58 _ .nil ?_
    exact ⟨rfl, rfl⟩
   ·
    refine g_sub [(3, .clo (.func 59) [.ref b_o0 0 []] []), (19, .lst (l_a1.map enc_S_api_Frame)), (20, .int .i64 (l_a1.length : Int)), (21, .int .i64 ((0 : Nat) : Int))] (Sub.cons' rfl (Sub.cons' rfl (Sub.cons' rfl (Sub.cons' rfl (Sub.nil _))))) ?_
    refine g_loop (fun n env σ => ∃ (i_3 : Nat) (w_4 : S_snapshot_writer), (n = l_a1.length - i_3) ∧ (env = [(3, .clo (.func 59) [.ref b_o0 0 []] []), (19, .lst (l_a1.map enc_S_api_Frame)), (20, .int .i64 (l_a1.length : Int)), (21, .int .i64 (i_3 : Int))]) ∧ (σ = [.cell b_o0 (enc_S_snapshot_writer w_4)]) ∧ (i_3 ≤ l_a1.length) ∧ (lf_snapshot_list_s6_L0 kk0 fuel (l_a1.drop i_3) w_4 = some res)) _ ⟨0, r_1, rfl, rfl, rfl, Nat.zero_le _, hr⟩ ?_
    rintro n _ _ ⟨i_3, w_4, rfl, rfl, rfl, hi0, hr⟩ IH0
    rcases listStep l_a1 i_3 hi0 with ⟨ht0, hd0, he0⟩ | ⟨q_6, ht0, hd0, hq0, hlt0⟩
    ·
     rw [hd0, lf_snapshot_list_s6_L0] at hr
     refine g_seq ?_
     refine g_run (by kernel_rfl) [(0, .d)] rfl ?_
     refine r_d rfl rfl rfl (s_cmp rfl rfl rfl rfl) ?_
     refine r_end ?_
     refine g_seq ?_
     refine g_known 22 false rfl ht0 ?_
     refine g_condF rfl ?_
     refine g_exit rfl ?_
     refine g_sub [] (Sub.nil _) ?_
     exact HK0 _ _ ⟨w_4, rfl, rfl, hr⟩
    ·
     rw [hd0, lf_snapshot_list_s6_L0] at hr
     refine g_seq ?_
     refine g_run (by kernel_rfl) [(0, .d)] rfl ?_
     refine r_d rfl rfl rfl (s_cmp rfl rfl rfl rfl) ?_
     refine r_end ?_
     refine g_seq ?_
     refine g_known 22 true rfl ht0 ?_
     refine g_condT rfl ?_
     refine g_skip ?_
     refine g_seq ?_
     refine g_block ?_
     refine g_seq ?_
     refine g_run (by kernel_rfl) [(0, .d), (1, .d), (2, .w), (3, .w)] rfl ?_
     refine r_d rfl rfl rfl (m_index (f := enc_S_api_Frame) l_a1 rfl el_L_api_Frame rfl (asl rfl) rfl hq0 sz_S_api_Frame rfl) ?_
     refine r_d rfl rfl rfl (s_load rfl rfl (by exact ty_api_Frame) (sz_S_api_Frame _)) ?_
     refine r_w rfl rfl rfl (s_alloc rfl zv_api_Frame) ?_
     rintro _ _ ⟨b9_6, rfl, rfl⟩
     refine r_w01 rfl rfl rfl (t_store0 _ rfl rfl rfl (Wk.refl _) (pf0 _) (by exact ty_api_Frame) (sz_S_api_Frame _) (by simp [sz, szs, szs_fsT, sz_encG]) rfl) ?_
     refine r_end ?_
     refine g_freeze 9 b9_6 rfl (pf0 _) ?_
     refine g_run (by kernel_rfl) [(0, .d), (1, .d), (2, .w)] rfl ?_
     refine r_d rfl rfl rfl (s_move rfl rfl) ?_
     refine r_d rfl rfl rfl (s_load rfl rfl (by exact ty_api_Frame) (sz_S_api_Frame _)) ?_
     obtain ⟨r_8, hr_8, hr⟩ := bindS hr
     refine r_w rfl rfl rfl (s_callV _ rfl rfl cl_Psnapshot_writer_frame (.cons rfl (Wk.refl _) .nil) rfl (by exact (pf0 _)) (lg_Psnapshot_writer_frame_s1 fuel _ _ _ _ hr_8)) ?_
     rintro _ _ ⟨_, ⟨rfl, rfl⟩, rfl⟩
     refine r_st ((.cell b_o0 (enc_S_snapshot_writer r_8)) :: _) rfl ?_
     refine r_end ?_
     refine g_inBlock ?_
     refine g_run (by kernel_rfl) [(0, .d), (1, .d)] rfl ?_
     refine r_d rfl rfl rfl (s_ar (r := ((i_3 + 1 : Nat) : Int)) rfl rfl rfl (by simp [iar]) (by omega)) ?_
     refine r_d rfl rfl rfl (s_move rfl rfl) ?_
     refine r_end ?_
     refine g_sub [(3, .clo (.func 59) [.ref b_o0 0 []] []), (19, .lst (l_a1.map enc_S_api_Frame)), (20, .int .i64 (l_a1.length : Int)), (21, .int .i64 ((i_3 + 1 : Nat) : Int))] (Sub.cons' rfl (Sub.cons' rfl (Sub.cons' rfl (Sub.cons' rfl (Sub.nil _))))) ?_
     exact IH0 _ _ _ (by omega) ⟨(i_3 + 1), r_8, rfl, rfl, rfl, (by omega), hr⟩

noncomputable def lf_snapshot_Config_1_s1 (fuel : Nat) (i_a0 : (Int × At)) (c_0 : S_snapshot_writer) : Option (S_snapshot_writer) :=
  ((lf_Psnapshot_writer_number_s1 i_a0.1 0 2147483648 c_0).bind fun r_1 =>
  ((lf_Psnapshot_writer_atom_s1 fuel i_a0.2 r_1).bind fun r_2 =>
  some (r_2)))

set_option maxHeartbeats 1000000 in
theorem lg_snapshot_Config_1_s1 (fuel : Nat) (i_a0 : (Int × At)) (c_0 : S_snapshot_writer) (b_o0 : Nat) (res : S_snapshot_writer) (hr : lf_snapshot_Config_1_s1 fuel i_a0 c_0 = some res) : Spec Tryz.prog 61 [encIt i_a0, .ptr (.ref b_o0 0 [])] [.cell b_o0 (enc_S_snapshot_writer c_0)] (fun d σ => d = .tup [] ∧ σ = [.cell b_o0 (enc_S_snapshot_writer res)]) := by
  unfold lf_snapshot_Config_1_s1 at hr
  refine spec_env [(0, encIt i_a0), (1, .ptr (.ref b_o0 0 []))] Tryz.func61 rfl rfl fun K hK => ?_
  refine g_seq ?_
  refine g_run (by kernel_rfl) [(0, .d)] rfl ?_
  refine r_d rfl rfl rfl (s_box rfl rfl rfl) ?_
  refine r_end ?_
  refine g_seq ?_
  refine g_run (by kernel_rfl) [(0, .d), (1, .d), (2, .d), (3, .w)] rfl ?_
  refine r_d rfl rfl rfl (s_load rfl rfl (by exact ty_P_snapshot_writer) rfl) ?_
  refine r_d rfl rfl rfl (s_fieldAddr rfl fl_api_Item_0 rfl rfl rfl rfl) ?_
  refine r_d rfl rfl rfl (s_load rfl rfl (by exact ty_int) rfl) ?_
  obtain ⟨r_1, hr_1, hr⟩ := bindS hr
  refine r_w rfl rfl rfl (s_call _ rfl cl_Psnapshot_writer_number (.cons rfl (Wk.refl _) (.cons rfl (Wk.refl _) (.cons rfl (Wk.refl _) (.cons rfl (Wk.refl _) .nil)))) (by exact (pf0 _)) (lg_Psnapshot_writer_number_s1 _ _ _ _ _ _ hr_1)) ?_
  rintro _ _ ⟨_, ⟨rfl, rfl⟩, rfl⟩
  refine r_st ((.cell b_o0 (enc_S_snapshot_writer r_1)) :: _) rfl ?_
  refine r_end ?_
  refine g_run (by kernel_rfl) [(0, .d), (1, .d), (2, .d), (3, .w)] rfl ?_
  refine r_d rfl rfl rfl (s_load rfl rfl (by exact ty_P_snapshot_writer) rfl) ?_
  refine r_d rfl rfl rfl (s_fieldAddr rfl fl_api_Item_1 rfl rfl rfl rfl) ?_
  refine r_d rfl rfl rfl (s_load rfl rfl (by exact ty_api_Atom) (sz_encA _)) ?_
  obtain ⟨r_2, hr_2, hr⟩ := bindS hr
  refine r_w rfl rfl rfl (s_call _ rfl cl_Psnapshot_writer_atom (.cons rfl (Wk.refl _) (.cons rfl (Wk.refl _) .nil)) (by exact (pf0 _)) (lg_Psnapshot_writer_atom_s1 fuel _ _ _ _ hr_2)) ?_
  rintro _ _ ⟨_, ⟨rfl, rfl⟩, rfl⟩
  refine r_st ((.cell b_o0 (enc_S_snapshot_writer r_2)) :: _) rfl ?_
  refine r_end ?_
  obtain rfl := Option.some.inj hr
  refine g_end Tryz.func61 _ .nil ?_
  exact ⟨rfl, rfl⟩

noncomputable def lf_snapshot_list_s7_L0 (k : (S_snapshot_writer) → Option (S_snapshot_writer)) (fuel : Nat) : List (Int × At) → S_snapshot_writer → Option (S_snapshot_writer)
  | [], w_4 =>
  (k w_4)
  | q_6 :: rest, w_4 =>
  ((lf_snapshot_Config_1_s1 fuel q_6 w_4).bind fun r_8 =>
  (lf_snapshot_list_s7_L0 k fuel rest r_8))
noncomputable def lf_snapshot_list_s7 (fuel : Nat) (l_a1 : (List (Int × At))) (most_a2 : Int) (c_0 : S_snapshot_writer) : Option (S_snapshot_writer) :=
  ((lf_Psnapshot_writer_number_s1 (l_a1.length : Int) 0 most_a2 c_0).bind fun r_1 =>
  (bif r_1.f1_bad then
  some (r_1)
  else
  (lf_snapshot_list_s7_L0 (fun w_5 =>
  some (w_5)) fuel l_a1 r_1)))

set_option maxHeartbeats 1000000 in
theorem lg_snapshot_list_s7 (fuel : Nat) (l_a1 : (List (Int × At))) (most_a2 : Int) (c_0 : S_snapshot_writer) (b_o0 : Nat) (res : S_snapshot_writer) (hr : lf_snapshot_list_s7 fuel l_a1 most_a2 c_0 = some res) : Spec Tryz.prog 60 [.ref b_o0 0 [], .lst (l_a1.map encIt), .int .i64 most_a2, .clo (.func 61) [] [.ptr (.ref b_o0 0 [])]] [.cell b_o0 (enc_S_snapshot_writer c_0)] (fun d σ => d = .tup [] ∧ σ = [.cell b_o0 (enc_S_snapshot_writer res)]) := by
  unfold lf_snapshot_list_s7 at hr
  refine spec_env [(0, .ref b_o0 0 []), (1, .lst (l_a1.map encIt)), (2, .int .i64 most_a2), (3, .clo (.func 61) [] [.ptr (.ref b_o0 0 [])])] Tryz.func60 rfl rfl fun K hK => ?_
  refine g_seq ?_
  refine g_run (by kernel_rfl) [(0, .d), (1, .d), (2, .d), (3, .d), (4, .w)] rfl ?_
  refine r_d rfl rfl rfl (s_move rfl rfl) ?_
  refine r_d rfl rfl rfl (s_move rfl rfl) ?_
  refine r_d rfl rfl rfl (m_len (f := encIt) l_a1 rfl el_L_api_Item rfl (asl rfl)) ?_
  refine r_d rfl rfl rfl (s_move rfl rfl) ?_
  obtain ⟨r_1, hr_1, hr⟩ := bindS hr
  refine r_w rfl rfl rfl (s_call _ rfl cl_Psnapshot_writer_number (.cons rfl (Wk.refl _) (.cons rfl (Wk.refl _) (.cons rfl (Wk.refl _) (.cons rfl (Wk.refl _) .nil)))) (by exact (pf0 _)) (lg_Psnapshot_writer_number_s1 _ _ _ _ _ _ hr_1)) ?_
  rintro _ _ ⟨_, ⟨rfl, rfl⟩, rfl⟩
  refine r_st ((.cell b_o0 (enc_S_snapshot_writer r_1)) :: _) rfl ?_
  refine r_end ?_
  refine g_seq ?_
  refine g_seq ?_
  refine g_run (by kernel_rfl) [(0, .d), (1, .d), (2, .d), (3, .r)] rfl ?_
  refine r_d rfl rfl rfl (s_move rfl rfl) ?_
  refine r_d rfl rfl rfl (s_nilCheckR rfl rfl) ?_
  refine r_d rfl rfl rfl (s_fieldRef rfl fl_snapshot_writer_1 rfl) ?_
  refine r_r rfl rfl rfl (t_loadRef rfl rfl (.head _) rfl rfl (by exact ty_bool) rfl) ?_
  refine r_end ?_
  refine g_sB 18 rfl hr (fun h18_1 hr => ?_) (fun h18_1 hr => ?_)
  ·
   refine g_condT rfl ?_
   obtain rfl := Option.some.inj hr
   refine g_ret Tryz.func60 _ .nil ?_
   exact ⟨rfl, rfl⟩
  ·
   refine g_condF rfl ?_
   refine g_skip ?_
   refine g_seq ?_
   refine g_run (by kernel_rfl) [(0, .d), (1, .d), (2, .d)] rfl ?_
   refine r_d rfl rfl rfl (s_move rfl rfl) ?_
   refine r_d rfl rfl rfl (m_len (f := encIt) l_a1 rfl el_L_api_Item rfl (asl rfl)) ?_
   refine r_d rfl rfl rfl (s_move rfl rfl) ?_
   refine r_end ?_
   obtain ⟨kk0, hkk0, hr⟩ := exK (fun k => lf_snapshot_list_s7_L0 k fuel l_a1 r_1) hr
   refine g_len 1 rfl (asl rfl) fun hla0 => ?_
   simp only [List.length_map] at hla0
   refine g_blockJ (fun env σ => ∃ (w_5 : S_snapshot_writer), env = [] ∧ σ = [.cell b_o0 (enc_S_snapshot_writer w_5)] ∧ kk0 w_5 = some res) ?_ (fun HK0 => ?_)
   ·
    rintro _ _ ⟨w_5, rfl, rfl, hr⟩
    rw [hkk0] at hr
    obtain rfl := Option.some.inj hr
    refine g_end Tryz.func60 _ .nil ?_
    exact ⟨rfl, rfl⟩
   ·
    refine g_sub [(3, .clo (.func 61) [] [.ptr (.ref b_o0 0 [])]), (19, .lst (l_a1.map encIt)), (20, .int .i64 (l_a1.length : Int)), (21, .int .i64 ((0 : Nat) : Int))] (Sub.cons' rfl (Sub.cons' rfl (Sub.cons' rfl (Sub.cons' rfl (Sub.nil _))))) ?_
    refine g_loop (fun n env σ => ∃ (i_3 : Nat) (w_4 : S_snapshot_writer), (n = l_a1.length - i_3) ∧ (env = [(3, .clo (.func 61) [] [.ptr (.ref b_o0 0 [])]), (19, .lst (l_a1.map encIt)), (20, .int .i64 (l_a1.length : Int)), (21, .int .i64 (i_3 : Int))]) ∧ (σ = [.cell b_o0 (enc_S_snapshot_writer w_4)]) ∧ (i_3 ≤ l_a1.length) ∧ (lf_snapshot_list_s7_L0 kk0 fuel (l_a1.drop i_3) w_4 = some res)) _ ⟨0, r_1, rfl, rfl, rfl, Nat.zero_le _, hr⟩ ?_
    rintro n _ _ ⟨i_3, w_4, rfl, rfl, rfl, hi0, hr⟩ IH0
    rcases listStep l_a1 i_3 hi0 with ⟨ht0, hd0, he0⟩ | ⟨q_6, ht0, hd0, hq0, hlt0⟩
    ·
     rw [hd0, lf_snapshot_list_s7_L0] at hr
     refine g_seq ?_
     refine g_run (by kernel_rfl) [(0, .d)] rfl ?_
     refine r_d rfl rfl rfl (s_cmp rfl rfl rfl rfl) ?_
     refine r_end ?_
     refine g_seq ?_
     refine g_known 22 false rfl ht0 ?_
     refine g_condF rfl ?_
     refine g_exit rfl ?_
     refine g_sub [] (Sub.nil _) ?_
     exact HK0 _ _ ⟨w_4, rfl, rfl, hr⟩
    ·
     rw [hd0, lf_snapshot_list_s7_L0] at hr
     refine g_seq ?_
     refine g_run (by kernel_rfl) [(0, .d)] rfl ?_
     refine r_d rfl rfl rfl (s_cmp rfl rfl rfl rfl) ?_
     refine r_end ?_
     refine g_seq ?_
     refine g_known 22 true rfl ht0 ?_
     refine g_condT rfl ?_
     refine g_skip ?_
     refine g_seq ?_
     refine g_block ?_
     refine g_seq ?_
     refine g_run (by kernel_rfl) [(0, .d), (1, .d), (2, .w), (3, .w)] rfl ?_
     refine r_d rfl rfl rfl (m_index (f := encIt) l_a1 rfl el_L_api_Item rfl (asl rfl) rfl hq0 sz_encIt rfl) ?_
     refine r_d rfl rfl rfl (s_load rfl rfl (by exact ty_api_Item) (sz_encIt _)) ?_
     refine r_w rfl rfl rfl (s_alloc rfl zv_api_Item) ?_
     rintro _ _ ⟨b9_6, rfl, rfl⟩
     refine r_w01 rfl rfl rfl (t_store0 _ rfl rfl rfl (Wk.refl _) (pf0 _) (by exact ty_api_Item) (sz_encIt _) (by simp [sz, szs, szs_fsT, sz_encA]) rfl) ?_
     refine r_end ?_
     refine g_freeze 9 b9_6 rfl (pf0 _) ?_
     refine g_run (by kernel_rfl) [(0, .d), (1, .d), (2, .w)] rfl ?_
     refine r_d rfl rfl rfl (s_move rfl rfl) ?_
     refine r_d rfl rfl rfl (s_load rfl rfl (by exact ty_api_Item) (sz_encIt _)) ?_
     obtain ⟨r_8, hr_8, hr⟩ := bindS hr
     refine r_w rfl rfl rfl (s_callV _ rfl rfl cl_snapshot_Config_1 (.cons rfl (Wk.refl _) .nil) rfl (by exact (pf0 _)) (lg_snapshot_Config_1_s1 fuel _ _ _ _ hr_8)) ?_
     rintro _ _ ⟨_, ⟨rfl, rfl⟩, rfl⟩
     refine r_st ((.cell b_o0 (enc_S_snapshot_writer r_8)) :: _) rfl ?_
     refine r_end ?_
     refine g_inBlock ?_
     refine g_run (by kernel_rfl) [(0, .d), (1, .d)] rfl ?_
     refine r_d rfl rfl rfl (s_ar (r := ((i_3 + 1 : Nat) : Int)) rfl rfl rfl (by simp [iar]) (by omega)) ?_
     refine r_d rfl rfl rfl (s_move rfl rfl) ?_
     refine r_end ?_
     refine g_sub [(3, .clo (.func 61) [] [.ptr (.ref b_o0 0 [])]), (19, .lst (l_a1.map encIt)), (20, .int .i64 (l_a1.length : Int)), (21, .int .i64 ((i_3 + 1 : Nat) : Int))] (Sub.cons' rfl (Sub.cons' rfl (Sub.cons' rfl (Sub.cons' rfl (Sub.nil _))))) ?_
     exact IH0 _ _ _ (by omega) ⟨(i_3 + 1), r_8, rfl, rfl, rfl, (by omega), hr⟩

noncomputable def lf_snapshot_Config_2_s1 (fuel : Nat) (b_a0 : (Int × T)) (c_0 : S_snapshot_writer) : Option (S_snapshot_writer) :=
  ((lf_Psnapshot_writer_number_s1 b_a0.1 0 1048576 c_0).bind fun r_1 =>
  (bif r_1.f1_bad then
  (bif (!true) then
  ((lf_Psnapshot_writer_term_s1 fuel b_a0.2 (⟨r_1.f0_b, true⟩ : S_snapshot_writer)).bind fun r_4 =>
  some (r_4))
  else
  some ((⟨r_1.f0_b, true⟩ : S_snapshot_writer)))
  else
  ((x_rightT b_a0.2).bind fun r_5 =>
  (bif (!(!r_5)) then
  ((lf_Psnapshot_writer_term_s1 fuel b_a0.2 (⟨r_1.f0_b, (!r_5)⟩ : S_snapshot_writer)).bind fun r_7 =>
  some (r_7))
  else
  some ((⟨r_1.f0_b, (!r_5)⟩ : S_snapshot_writer))))))

set_option maxHeartbeats 1000000 in
theorem lg_snapshot_Config_2_s1 (fuel : Nat) (b_a0 : (Int × T)) (c_0 : S_snapshot_writer) (b_o0 : Nat) (res : S_snapshot_writer) (hr : lf_snapshot_Config_2_s1 fuel b_a0 c_0 = some res) : Spec Tryz.prog 64 [encP b_a0, .ptr (.ref b_o0 0 [])] [.cell b_o0 (enc_S_snapshot_writer c_0)] (fun d σ => d = .tup [] ∧ σ = [.cell b_o0 (enc_S_snapshot_writer res)]) := by
  unfold lf_snapshot_Config_2_s1 at hr
  refine spec_env [(0, encP b_a0), (1, .ptr (.ref b_o0 0 []))] Tryz.func64 rfl rfl fun K hK => ?_
  refine g_seq ?_
  refine g_run (by kernel_rfl) [(0, .d)] rfl ?_
  refine r_d rfl rfl rfl (s_box rfl rfl rfl) ?_
  refine r_end ?_
  refine g_seq ?_
  refine g_run (by kernel_rfl) [(0, .d), (1, .d), (2, .d), (3, .w)] rfl ?_
  refine r_d rfl rfl rfl (s_load rfl rfl (by exact ty_P_snapshot_writer) rfl) ?_
  refine r_d rfl rfl rfl (s_fieldAddr rfl fl_api_Bind_0 rfl rfl rfl rfl) ?_
  refine r_d rfl rfl rfl (s_load rfl rfl (by exact ty_int) rfl) ?_
  obtain ⟨r_1, hr_1, hr⟩ := bindS hr
  refine r_w rfl rfl rfl (s_call _ rfl cl_Psnapshot_writer_number (.cons rfl (Wk.refl _) (.cons rfl (Wk.refl _) (.cons rfl (Wk.refl _) (.cons rfl (Wk.refl _) .nil)))) (by exact (pf0 _)) (lg_Psnapshot_writer_number_s1 _ _ _ _ _ _ hr_1)) ?_
  rintro _ _ ⟨_, ⟨rfl, rfl⟩, rfl⟩
  refine r_st ((.cell b_o0 (enc_S_snapshot_writer r_1)) :: _) rfl ?_
  refine r_end ?_
  refine g_seq ?_
  refine g_any (by kernel_rfl) (by kernel_rfl) [(0, .d), (1, .d), (2, .d), (3, .d), (4, .r), (5, .d), (6, .d), (7, .d), (8, .d), (9, .d), (10, .d), (11, .d), (12, .d), (13, .w)] (by kernel_rfl) ?_
  refine r_d rfl rfl rfl (s_load rfl rfl (by exact ty_P_snapshot_writer) rfl) ?_
  refine r_d rfl rfl rfl (s_load rfl rfl (by exact ty_P_snapshot_writer) rfl) ?_
  refine r_d rfl rfl rfl (s_nilCheckR rfl rfl) ?_
  refine r_d rfl rfl rfl (s_fieldRef rfl fl_snapshot_writer_1 rfl) ?_
  refine r_r rfl rfl rfl (t_loadRef rfl rfl (.head _) rfl rfl (by exact ty_bool) rfl) ?_
  refine r_d rfl rfl rfl (s_move rfl rfl) ?_
  refine r_sB 12 rfl hr (fun h12_1 hr => ?_) (fun h12_1 hr => ?_)
  ·
   refine r_skip rfl rfl rfl ?_
   refine r_skip rfl rfl rfl ?_
   refine r_skip rfl rfl rfl ?_
   refine r_skip rfl rfl rfl ?_
   refine r_d rfl rfl rfl (s_pickT rfl rfl rfl) ?_
   refine r_d rfl rfl rfl (s_nilCheckR rfl rfl) ?_
   refine r_d rfl rfl rfl (s_fieldRef rfl fl_snapshot_writer_1 rfl) ?_
   refine r_w01 rfl rfl rfl (t_store _ rfl rfl rfl (Wk.refl _) (pf0 _) rfl rfl (by exact ty_bool) rfl rfl rfl) ?_
   refine r_end ?_
   refine g_seq ?_
   refine g_run (by kernel_rfl) [(0, .d), (1, .d), (2, .d), (3, .r), (4, .d)] rfl ?_
   refine r_d rfl rfl rfl (s_load rfl rfl (by exact ty_P_snapshot_writer) rfl) ?_
   refine r_d rfl rfl rfl (s_nilCheckR rfl rfl) ?_
   refine r_d rfl rfl rfl (s_fieldRef rfl fl_snapshot_writer_1 rfl) ?_
   refine r_r rfl rfl rfl (t_loadRef rfl rfl (.head _) rfl rfl (by exact ty_bool) rfl) ?_
   refine r_d rfl rfl rfl (s_not rfl rfl) ?_
   refine r_end ?_
   refine g_sB 24 rfl hr (fun h24_2 hr => ?_) (fun h24_2 hr => ?_)
   ·
    refine g_condT rfl ?_
    refine g_run (by kernel_rfl) [(0, .d), (1, .d), (2, .d), (3, .w)] rfl ?_
    refine r_d rfl rfl rfl (s_load rfl rfl (by exact ty_P_snapshot_writer) rfl) ?_
    refine r_d rfl rfl rfl (s_fieldAddr rfl fl_api_Bind_1 rfl rfl rfl rfl) ?_
    refine r_d rfl rfl rfl (s_load rfl rfl (by exact ty_api_Term) (sz_encT _)) ?_
    obtain ⟨r_4, hr_4, hr⟩ := bindS hr
    refine r_w rfl rfl rfl (s_call _ rfl cl_Psnapshot_writer_term (.cons rfl (Wk.refl _) (.cons rfl (Wk.refl _) .nil)) (by exact (pf0 _)) (lg_Psnapshot_writer_term_s1 fuel _ _ _ _ hr_4)) ?_
    rintro _ _ ⟨_, ⟨rfl, rfl⟩, rfl⟩
    refine r_st ((.cell b_o0 (enc_S_snapshot_writer r_4)) :: _) rfl ?_
    refine r_end ?_
    obtain rfl := Option.some.inj hr
    refine g_end Tryz.func64 _ .nil ?_
    exact ⟨rfl, rfl⟩
   ·
    refine g_condF rfl ?_
    refine g_skip ?_
    obtain rfl := Option.some.inj hr
    refine g_end Tryz.func64 _ .nil ?_
    exact ⟨rfl, rfl⟩
  ·
   refine r_d rfl rfl rfl (s_fieldAddr rfl fl_api_Bind_1 rfl rfl rfl rfl) ?_
   refine r_d rfl rfl rfl (s_load rfl rfl (by exact ty_api_Term) (sz_encT _)) ?_
   obtain ⟨r_5, hr_5, hr⟩ := bindS hr
   refine r_d rfl rfl rfl (s_callD rfl cl_term_Right (.cons rfl (Wk.refl _) .nil) (lx_term_Right _ _ hr_5)) ?_
   refine r_d rfl rfl rfl (s_not rfl rfl) ?_
   refine r_d rfl rfl rfl (s_pickF rfl rfl rfl) ?_
   refine r_d rfl rfl rfl (s_nilCheckR rfl rfl) ?_
   refine r_d rfl rfl rfl (s_fieldRef rfl fl_snapshot_writer_1 rfl) ?_
   refine r_w01 rfl rfl rfl (t_store _ rfl rfl rfl (Wk.refl _) (pf0 _) rfl rfl (by exact ty_bool) rfl rfl rfl) ?_
   refine r_end ?_
   refine g_seq ?_
   refine g_run (by kernel_rfl) [(0, .d), (1, .d), (2, .d), (3, .r), (4, .d)] rfl ?_
   refine r_d rfl rfl rfl (s_load rfl rfl (by exact ty_P_snapshot_writer) rfl) ?_
   refine r_d rfl rfl rfl (s_nilCheckR rfl rfl) ?_
   refine r_d rfl rfl rfl (s_fieldRef rfl fl_snapshot_writer_1 rfl) ?_
   refine r_r rfl rfl rfl (t_loadRef rfl rfl (.head _) rfl rfl (by exact ty_bool) rfl) ?_
   refine r_d rfl rfl rfl (s_not rfl rfl) ?_
   refine r_end ?_
   refine g_sB 24 rfl hr (fun h24_5 hr => ?_) (fun h24_5 hr => ?_)
   ·
    refine g_condT rfl ?_
    refine g_run (by kernel_rfl) [(0, .d), (1, .d), (2, .d), (3, .w)] rfl ?_
    refine r_d rfl rfl rfl (s_load rfl rfl (by exact ty_P_snapshot_writer) rfl) ?_
    refine r_d rfl rfl rfl (s_fieldAddr rfl fl_api_Bind_1 rfl rfl rfl rfl) ?_
    refine r_d rfl rfl rfl (s_load rfl rfl (by exact ty_api_Term) (sz_encT _)) ?_
    obtain ⟨r_7, hr_7, hr⟩ := bindS hr
    refine r_w rfl rfl rfl (s_call _ rfl cl_Psnapshot_writer_term (.cons rfl (Wk.refl _) (.cons rfl (Wk.refl _) .nil)) (by exact (pf0 _)) (lg_Psnapshot_writer_term_s1 fuel _ _ _ _ hr_7)) ?_
    rintro _ _ ⟨_, ⟨rfl, rfl⟩, rfl⟩
    refine r_st ((.cell b_o0 (enc_S_snapshot_writer r_7)) :: _) rfl ?_
    refine r_end ?_
    obtain rfl := Option.some.inj hr
    refine g_end Tryz.func64 _ .nil ?_
    exact ⟨rfl, rfl⟩
   ·
    refine g_condF rfl ?_
    refine g_skip ?_
    obtain rfl := Option.some.inj hr
    refine g_end Tryz.func64 _ .nil ?_
    exact ⟨rfl, rfl⟩

noncomputable def lf_snapshot_list_s8_L0 (k : (S_snapshot_writer) → Option (S_snapshot_writer)) (fuel : Nat) : List (Int × T) → S_snapshot_writer → Option (S_snapshot_writer)
  | [], w_4 =>
  (k w_4)
  | q_6 :: rest, w_4 =>
  ((lf_snapshot_Config_2_s1 fuel q_6 w_4).bind fun r_8 =>
  (lf_snapshot_list_s8_L0 k fuel rest r_8))
noncomputable def lf_snapshot_list_s8 (fuel : Nat) (l_a1 : (List (Int × T))) (most_a2 : Int) (c_0 : S_snapshot_writer) : Option (S_snapshot_writer) :=
  ((lf_Psnapshot_writer_number_s1 (l_a1.length : Int) 0 most_a2 c_0).bind fun r_1 =>
  (bif r_1.f1_bad then
  some (r_1)
  else
  (lf_snapshot_list_s8_L0 (fun w_5 =>
  some (w_5)) fuel l_a1 r_1)))

set_option maxHeartbeats 1000000 in
theorem lg_snapshot_list_s8 (fuel : Nat) (l_a1 : (List (Int × T))) (most_a2 : Int) (c_0 : S_snapshot_writer) (b_o0 : Nat) (res : S_snapshot_writer) (hr : lf_snapshot_list_s8 fuel l_a1 most_a2 c_0 = some res) : Spec Tryz.prog 63 [.ref b_o0 0 [], .lst (l_a1.map encP), .int .i64 most_a2, .clo (.func 64) [] [.ptr (.ref b_o0 0 [])]] [.cell b_o0 (enc_S_snapshot_writer c_0)] (fun d σ => d = .tup [] ∧ σ = [.cell b_o0 (enc_S_snapshot_writer res)]) := by
  unfold lf_snapshot_list_s8 at hr
  refine spec_env [(0, .ref b_o0 0 []), (1, .lst (l_a1.map encP)), (2, .int .i64 most_a2), (3, .clo (.func 64) [] [.ptr (.ref b_o0 0 [])])] Tryz.func63 rfl rfl fun K hK => ?_
  refine g_seq ?_
  refine g_run (by kernel_rfl) [(0, .d), (1, .d), (2, .d), (3, .d), (4, .w)] rfl ?_
  refine r_d rfl rfl rfl (s_move rfl rfl) ?_
  refine r_d rfl rfl rfl (s_move rfl rfl) ?_
  refine r_d rfl rfl rfl (m_len (f := encP) l_a1 rfl el_L_api_Bind rfl (asl rfl)) ?_
  refine r_d rfl rfl rfl (s_move rfl rfl) ?_
  obtain ⟨r_1, hr_1, hr⟩ := bindS hr
  refine r_w rfl rfl rfl (s_call _ rfl cl_Psnapshot_writer_number (.cons rfl (Wk.refl _) (.cons rfl (Wk.refl _) (.cons rfl (Wk.refl _) (.cons rfl (Wk.refl _) .nil)))) (by exact (pf0 _)) (lg_Psnapshot_writer_number_s1 _ _ _ _ _ _ hr_1)) ?_
  rintro _ _ ⟨_, ⟨rfl, rfl⟩, rfl⟩
  refine r_st ((.cell b_o0 (enc_S_snapshot_writer r_1)) :: _) rfl ?_
  refine r_end ?_
  refine g_seq ?_
  refine g_seq ?_
  refine g_run (by kernel_rfl) [(0, .d), (1, .d), (2, .d), (3, .r)] rfl ?_
  refine r_d rfl rfl rfl (s_move rfl rfl) ?_
  refine r_d rfl rfl rfl (s_nilCheckR rfl rfl) ?_
  refine r_d rfl rfl rfl (s_fieldRef rfl fl_snapshot_writer_1 rfl) ?_
  refine r_r rfl rfl rfl (t_loadRef rfl rfl (.head _) rfl rfl (by exact ty_bool) rfl) ?_
  refine r_end ?_
  refine g_sB 18 rfl hr (fun h18_1 hr => ?_) (fun h18_1 hr => ?_)
  ·
   refine g_condT rfl ?_
   obtain rfl := Option.some.inj hr
   refine g_ret Tryz.func63 _ .nil ?_
   exact ⟨rfl, rfl⟩
  ·
   refine g_condF rfl ?_
   refine g_skip ?_
   refine g_seq ?_
   refine g_run (by kernel_rfl) [(0, .d), (1, .d), (2, .d)] rfl ?_
   refine r_d rfl rfl rfl (s_move rfl rfl) ?_
   refine r_d rfl rfl rfl (m_len (f := encP) l_a1 rfl el_L_api_Bind rfl (asl rfl)) ?_
   refine r_d rfl rfl rfl (s_move rfl rfl) ?_
   refine r_end ?_
   obtain ⟨kk0, hkk0, hr⟩ := exK (fun k => lf_snapshot_list_s8_L0 k fuel l_a1 r_1) hr
   refine g_len 1 rfl (asl rfl) fun hla0 => ?_
   simp only [List.length_map] at hla0
   refine g_blockJ (fun env σ => ∃ (w_5 : S_snapshot_writer), env = [] ∧ σ = [.cell b_o0 (enc_S_snapshot_writer w_5)] ∧ kk0 w_5 = some res) ?_ (fun HK0 => ?_)
   ·
    rintro _ _ ⟨w_5, rfl, rfl, hr⟩
    rw [hkk0] at hr
    obtain rfl := Option.some.inj hr
    refine g_end Tryz.func63 _ .nil ?_
    exact ⟨rfl, rfl⟩
   ·
    refine g_sub [(3, .clo (.func 64) [] [.ptr (.ref b_o0 0 [])]), (19, .lst (l_a1.map encP)), (20, .int .i64 (l_a1.length : Int)), (21, .int .i64 ((0 : Nat) : Int))] (Sub.cons' rfl (Sub.cons' rfl (Sub.cons' rfl (Sub.cons' rfl (Sub.nil _))))) ?_
    refine g_loop (fun n env σ => ∃ (i_3 : Nat) (w_4 : S_snapshot_writer), (n = l_a1.length - i_3) ∧ (env = [(3, .clo (.func 64) [] [.ptr (.ref b_o0 0 [])]), (19, .lst (l_a1.map encP)), (20, .int .i64 (l_a1.length : Int)), (21, .int .i64 (i_3 : Int))]) ∧ (σ = [.cell b_o0 (enc_S_snapshot_writer w_4)]) ∧ (i_3 ≤ l_a1.length) ∧ (lf_snapshot_list_s8_L0 kk0 fuel (l_a1.drop i_3) w_4 = some res)) _ ⟨0, r_1, rfl, rfl, rfl, Nat.zero_le _, hr⟩ ?_
    rintro n _ _ ⟨i_3, w_4, rfl, rfl, rfl, hi0, hr⟩ IH0
    rcases listStep l_a1 i_3 hi0 with ⟨ht0, hd0, he0⟩ | ⟨q_6, ht0, hd0, hq0, hlt0⟩
    ·
     rw [hd0, lf_snapshot_list_s8_L0] at hr
     refine g_seq ?_
     refine g_run (by kernel_rfl) [(0, .d)] rfl ?_
     refine r_d rfl rfl rfl (s_cmp rfl rfl rfl rfl) ?_
     refine r_end ?_
     refine g_seq ?_
     refine g_known 22 false rfl ht0 ?_
     refine g_condF rfl ?_
     refine g_exit rfl ?_
     refine g_sub [] (Sub.nil _) ?_
     exact HK0 _ _ ⟨w_4, rfl, rfl, hr⟩
    ·
     rw [hd0, lf_snapshot_list_s8_L0] at hr
     refine g_seq ?_
     refine g_run (by kernel_rfl) [(0, .d)] rfl ?_
     refine r_d rfl rfl rfl (s_cmp rfl rfl rfl rfl) ?_
     refine r_end ?_
     refine g_seq ?_
     refine g_known 22 true rfl ht0 ?_
     refine g_condT rfl ?_
     refine g_skip ?_
     refine g_seq ?_
     refine g_block ?_
     refine g_seq ?_
     refine g_run (by kernel_rfl) [(0, .d), (1, .d), (2, .w), (3, .w)] rfl ?_
     refine r_d rfl rfl rfl (m_index (f := encP) l_a1 rfl el_L_api_Bind rfl (asl rfl) rfl hq0 sz_encP rfl) ?_
     refine r_d rfl rfl rfl (s_load rfl rfl (by exact ty_api_Bind) (sz_encP _)) ?_
     refine r_w rfl rfl rfl (s_alloc rfl zv_api_Bind) ?_
     rintro _ _ ⟨b9_6, rfl, rfl⟩
     refine r_w01 rfl rfl rfl (t_store0 _ rfl rfl rfl (Wk.refl _) (pf0 _) (by exact ty_api_Bind) (sz_encP _) (by simp [sz, szs, szs_fsT, sz_encT]) rfl) ?_
     refine r_end ?_
     refine g_freeze 9 b9_6 rfl (pf0 _) ?_
     refine g_run (by kernel_rfl) [(0, .d), (1, .d), (2, .w)] rfl ?_
     refine r_d rfl rfl rfl (s_move rfl rfl) ?_
     refine r_d rfl rfl rfl (s_load rfl rfl (by exact ty_api_Bind) (sz_encP _)) ?_
     obtain ⟨r_8, hr_8, hr⟩ := bindS hr
     refine r_w rfl rfl rfl (s_callV _ rfl rfl cl_snapshot_Config_2 (.cons rfl (Wk.refl _) .nil) rfl (by exact (pf0 _)) (lg_snapshot_Config_2_s1 fuel _ _ _ _ hr_8)) ?_
     rintro _ _ ⟨_, ⟨rfl, rfl⟩, rfl⟩
     refine r_st ((.cell b_o0 (enc_S_snapshot_writer r_8)) :: _) rfl ?_
     refine r_end ?_
     refine g_inBlock ?_
     refine g_run (by kernel_rfl) [(0, .d), (1, .d)] rfl ?_
     refine r_d rfl rfl rfl (s_ar (r := ((i_3 + 1 : Nat) : Int)) rfl rfl rfl (by simp [iar]) (by omega)) ?_
     refine r_d rfl rfl rfl (s_move rfl rfl) ?_
     refine r_end ?_
     refine g_sub [(3, .clo (.func 64) [] [.ptr (.ref b_o0 0 [])]), (19, .lst (l_a1.map encP)), (20, .int .i64 (l_a1.length : Int)), (21, .int .i64 ((i_3 + 1 : Nat) : Int))] (Sub.cons' rfl (Sub.cons' rfl (Sub.cons' rfl (Sub.cons' rfl (Sub.nil _))))) ?_
     exact IH0 _ _ _ (by omega) ⟨(i_3 + 1), r_8, rfl, rfl, rfl, (by omega), hr⟩

noncomputable def lf_Psnapshot_writer_numbers_1_s1 (n_a0 : Int) (t2_a2 : Int) (c_0 : S_snapshot_writer) : Option (S_snapshot_writer) :=
  ((lf_Psnapshot_writer_number_s1 n_a0 0 t2_a2 c_0).bind fun r_1 =>
  some (r_1))

set_option maxHeartbeats 1000000 in
theorem lg_Psnapshot_writer_numbers_1_s1 (n_a0 : Int) (t2_a2 : Int) (c_0 : S_snapshot_writer) (b_o0 : Nat) (res : S_snapshot_writer) (hr : lf_Psnapshot_writer_numbers_1_s1 n_a0 t2_a2 c_0 = some res) : Spec Tryz.prog 156 [.int .i64 n_a0, .ptr (.ref b_o0 0 []), .ptr (.int .i64 t2_a2)] [.cell b_o0 (enc_S_snapshot_writer c_0)] (fun d σ => d = .tup [] ∧ σ = [.cell b_o0 (enc_S_snapshot_writer res)]) := by
  unfold lf_Psnapshot_writer_numbers_1_s1 at hr
  refine spec_env [(0, .int .i64 n_a0), (1, .ptr (.ref b_o0 0 [])), (2, .ptr (.int .i64 t2_a2))] Tryz.func156 rfl rfl fun K hK => ?_
  refine g_run (by kernel_rfl) [(0, .d), (1, .d), (2, .d), (3, .w)] rfl ?_
  refine r_d rfl rfl rfl (s_load rfl rfl (by exact ty_P_snapshot_writer) rfl) ?_
  refine r_d rfl rfl rfl (s_move rfl rfl) ?_
  refine r_d rfl rfl rfl (s_load rfl rfl (by exact ty_int) rfl) ?_
  obtain ⟨r_1, hr_1, hr⟩ := bindS hr
  refine r_w rfl rfl rfl (s_call _ rfl cl_Psnapshot_writer_number (.cons rfl (Wk.refl _) (.cons rfl (Wk.refl _) (.cons rfl (Wk.refl _) (.cons rfl (Wk.refl _) .nil)))) (by exact (pf0 _)) (lg_Psnapshot_writer_number_s1 _ _ _ _ _ _ hr_1)) ?_
  rintro _ _ ⟨_, ⟨rfl, rfl⟩, rfl⟩
  refine r_st ((.cell b_o0 (enc_S_snapshot_writer r_1)) :: _) rfl ?_
  refine r_end ?_
  obtain rfl := Option.some.inj hr
  refine g_end Tryz.func156 _ .nil ?_
  exact ⟨rfl, rfl⟩

noncomputable def lf_snapshot_list_s10_L0 (k : (S_snapshot_writer) → Option (S_snapshot_writer)) (put_a3_c1 : Int) : List Int → S_snapshot_writer → Option (S_snapshot_writer)
  | [], w_4 =>
  (k w_4)
  | q_6 :: rest, w_4 =>
  ((lf_Psnapshot_writer_numbers_1_s1 q_6 put_a3_c1 w_4).bind fun r_7 =>
  (lf_snapshot_list_s10_L0 k put_a3_c1 rest r_7))
noncomputable def lf_snapshot_list_s10 (l_a1 : (List Int)) (most_a2 : Int) (put_a3_c1 : Int) (c_0 : S_snapshot_writer) : Option (S_snapshot_writer) :=
  ((lf_Psnapshot_writer_number_s1 (l_a1.length : Int) 0 most_a2 c_0).bind fun r_1 =>
  (bif r_1.f1_bad then
  some (r_1)
  else
  (lf_snapshot_list_s10_L0 (fun w_5 =>
  some (w_5)) put_a3_c1 l_a1 r_1)))

set_option maxHeartbeats 1000000 in
theorem lg_snapshot_list_s10 (l_a1 : (List Int)) (most_a2 : Int) (put_a3_c1 : Int) (c_0 : S_snapshot_writer) (b_o0 : Nat) (res : S_snapshot_writer) (hr : lf_snapshot_list_s10 l_a1 most_a2 put_a3_c1 c_0 = some res) : Spec Tryz.prog 155 [.ref b_o0 0 [], .lst (l_a1.map (D.int .i64)), .int .i64 most_a2, .clo (.func 156) [] [.ptr (.ref b_o0 0 []), .ptr (.int .i64 put_a3_c1)]] [.cell b_o0 (enc_S_snapshot_writer c_0)] (fun d σ => d = .tup [] ∧ σ = [.cell b_o0 (enc_S_snapshot_writer res)]) := by
  unfold lf_snapshot_list_s10 at hr
  refine spec_env [(0, .ref b_o0 0 []), (1, .lst (l_a1.map (D.int .i64))), (2, .int .i64 most_a2), (3, .clo (.func 156) [] [.ptr (.ref b_o0 0 []), .ptr (.int .i64 put_a3_c1)])] Tryz.func155 rfl rfl fun K hK => ?_
  refine g_seq ?_
  refine g_run (by kernel_rfl) [(0, .d), (1, .d), (2, .d), (3, .d), (4, .w)] rfl ?_
  refine r_d rfl rfl rfl (s_move rfl rfl) ?_
  refine r_d rfl rfl rfl (s_move rfl rfl) ?_
  refine r_d rfl rfl rfl (m_len (f := (D.int .i64)) l_a1 rfl el_L_int rfl (asl rfl)) ?_
  refine r_d rfl rfl rfl (s_move rfl rfl) ?_
  obtain ⟨r_1, hr_1, hr⟩ := bindS hr
  refine r_w rfl rfl rfl (s_call _ rfl cl_Psnapshot_writer_number (.cons rfl (Wk.refl _) (.cons rfl (Wk.refl _) (.cons rfl (Wk.refl _) (.cons rfl (Wk.refl _) .nil)))) (by exact (pf0 _)) (lg_Psnapshot_writer_number_s1 _ _ _ _ _ _ hr_1)) ?_
  rintro _ _ ⟨_, ⟨rfl, rfl⟩, rfl⟩
  refine r_st ((.cell b_o0 (enc_S_snapshot_writer r_1)) :: _) rfl ?_
  refine r_end ?_
  refine g_seq ?_
  refine g_seq ?_
  refine g_run (by kernel_rfl) [(0, .d), (1, .d), (2, .d), (3, .r)] rfl ?_
  refine r_d rfl rfl rfl (s_move rfl rfl) ?_
  refine r_d rfl rfl rfl (s_nilCheckR rfl rfl) ?_
  refine r_d rfl rfl rfl (s_fieldRef rfl fl_snapshot_writer_1 rfl) ?_
  refine r_r rfl rfl rfl (t_loadRef rfl rfl (.head _) rfl rfl (by exact ty_bool) rfl) ?_
  refine r_end ?_
  refine g_sB 18 rfl hr (fun h18_1 hr => ?_) (fun h18_1 hr => ?_)
  ·
   refine g_condT rfl ?_
   obtain rfl := Option.some.inj hr
   refine g_ret Tryz.func155 _ .nil ?_
   exact ⟨rfl, rfl⟩
  ·
   refine g_condF rfl ?_
   refine g_skip ?_
   refine g_seq ?_
   refine g_run (by kernel_rfl) [(0, .d), (1, .d), (2, .d)] rfl ?_
   refine r_d rfl rfl rfl (s_move rfl rfl) ?_
   refine r_d rfl rfl rfl (m_len (f := (D.int .i64)) l_a1 rfl el_L_int rfl (asl rfl)) ?_
   refine r_d rfl rfl rfl (s_move rfl rfl) ?_
   refine r_end ?_
   obtain ⟨kk0, hkk0, hr⟩ := exK (fun k => lf_snapshot_list_s10_L0 k put_a3_c1 l_a1 r_1) hr
   refine g_len 1 rfl (asl rfl) fun hla0 => ?_
   simp only [List.length_map] at hla0
   refine g_blockJ (fun env σ => ∃ (w_5 : S_snapshot_writer), env = [] ∧ σ = [.cell b_o0 (enc_S_snapshot_writer w_5)] ∧ kk0 w_5 = some res) ?_ (fun HK0 => ?_)
   ·
    rintro _ _ ⟨w_5, rfl, rfl, hr⟩
    rw [hkk0] at hr
    obtain rfl := Option.some.inj hr
    refine g_end Tryz.func155 _ .nil ?_
    exact ⟨rfl, rfl⟩
   ·
    refine g_sub [(3, .clo (.func 156) [] [.ptr (.ref b_o0 0 []), .ptr (.int .i64 put_a3_c1)]), (19, .lst (l_a1.map (D.int .i64))), (20, .int .i64 (l_a1.length : Int)), (21, .int .i64 ((0 : Nat) : Int))] (Sub.cons' rfl (Sub.cons' rfl (Sub.cons' rfl (Sub.cons' rfl (Sub.nil _))))) ?_
    refine g_loop (fun n env σ => ∃ (i_3 : Nat) (w_4 : S_snapshot_writer), (n = l_a1.length - i_3) ∧ (env = [(3, .clo (.func 156) [] [.ptr (.ref b_o0 0 []), .ptr (.int .i64 put_a3_c1)]), (19, .lst (l_a1.map (D.int .i64))), (20, .int .i64 (l_a1.length : Int)), (21, .int .i64 (i_3 : Int))]) ∧ (σ = [.cell b_o0 (enc_S_snapshot_writer w_4)]) ∧ (i_3 ≤ l_a1.length) ∧ (lf_snapshot_list_s10_L0 kk0 put_a3_c1 (l_a1.drop i_3) w_4 = some res)) _ ⟨0, r_1, rfl, rfl, rfl, Nat.zero_le _, hr⟩ ?_
    rintro n _ _ ⟨i_3, w_4, rfl, rfl, rfl, hi0, hr⟩ IH0
    rcases listStep l_a1 i_3 hi0 with ⟨ht0, hd0, he0⟩ | ⟨q_6, ht0, hd0, hq0, hlt0⟩
    ·
     rw [hd0, lf_snapshot_list_s10_L0] at hr
     refine g_seq ?_
     refine g_run (by kernel_rfl) [(0, .d)] rfl ?_
     refine r_d rfl rfl rfl (s_cmp rfl rfl rfl rfl) ?_
     refine r_end ?_
     refine g_seq ?_
     refine g_known 22 false rfl ht0 ?_
     refine g_condF rfl ?_
     refine g_exit rfl ?_
     refine g_sub [] (Sub.nil _) ?_
     exact HK0 _ _ ⟨w_4, rfl, rfl, hr⟩
    ·
     rw [hd0, lf_snapshot_list_s10_L0] at hr
     refine g_seq ?_
     refine g_run (by kernel_rfl) [(0, .d)] rfl ?_
     refine r_d rfl rfl rfl (s_cmp rfl rfl rfl rfl) ?_
     refine r_end ?_
     refine g_seq ?_
     refine g_known 22 true rfl ht0 ?_
     refine g_condT rfl ?_
     refine g_skip ?_
     refine g_seq ?_
     refine g_block ?_
     refine g_seq ?_
     refine g_run (by kernel_rfl) [(0, .d), (1, .d), (2, .d)] rfl ?_
     refine r_d rfl rfl rfl (m_index (f := (D.int .i64)) l_a1 rfl el_L_int rfl (asl rfl) rfl hq0 (fun _ => rfl) rfl) ?_
     refine r_d rfl rfl rfl (s_load rfl rfl (by exact ty_int) rfl) ?_
     refine r_d rfl rfl rfl (s_assign rfl rfl) ?_
     refine r_end ?_
     refine g_run (by kernel_rfl) [(0, .d), (1, .d), (2, .w)] rfl ?_
     refine r_d rfl rfl rfl (s_move rfl rfl) ?_
     refine r_d rfl rfl rfl (s_move rfl rfl) ?_
     obtain ⟨r_7, hr_7, hr⟩ := bindS hr
     refine r_w rfl rfl rfl (s_callV _ rfl rfl cl_Psnapshot_writer_numbers_1 (.cons rfl (Wk.refl _) .nil) rfl (by exact (pf0 _)) (lg_Psnapshot_writer_numbers_1_s1 _ _ _ _ _ hr_7)) ?_
     rintro _ _ ⟨_, ⟨rfl, rfl⟩, rfl⟩
     refine r_st ((.cell b_o0 (enc_S_snapshot_writer r_7)) :: _) rfl ?_
     refine r_end ?_
     refine g_inBlock ?_
     refine g_run (by kernel_rfl) [(0, .d), (1, .d)] rfl ?_
     refine r_d rfl rfl rfl (s_ar (r := ((i_3 + 1 : Nat) : Int)) rfl rfl rfl (by simp [iar]) (by omega)) ?_
     refine r_d rfl rfl rfl (s_move rfl rfl) ?_
     refine r_end ?_
     refine g_sub [(3, .clo (.func 156) [] [.ptr (.ref b_o0 0 []), .ptr (.int .i64 put_a3_c1)]), (19, .lst (l_a1.map (D.int .i64))), (20, .int .i64 (l_a1.length : Int)), (21, .int .i64 ((i_3 + 1 : Nat) : Int))] (Sub.cons' rfl (Sub.cons' rfl (Sub.cons' rfl (Sub.cons' rfl (Sub.nil _))))) ?_
     exact IH0 _ _ _ (by omega) ⟨(i_3 + 1), r_7, rfl, rfl, rfl, (by omega), hr⟩

noncomputable def lf_Psnapshot_writer_numbers_s1 (l_a1 : (List Int)) (most_a2 : Int) (high_a3 : Int) (c_0 : S_snapshot_writer) : Option (S_snapshot_writer) :=
  ((lf_snapshot_list_s10 l_a1 most_a2 high_a3 c_0).bind fun r_1 =>
  some (r_1))

set_option maxHeartbeats 1000000 in
theorem lg_Psnapshot_writer_numbers_s1 (l_a1 : (List Int)) (most_a2 : Int) (high_a3 : Int) (c_0 : S_snapshot_writer) (b_o0 : Nat) (res : S_snapshot_writer) (hr : lf_Psnapshot_writer_numbers_s1 l_a1 most_a2 high_a3 c_0 = some res) : Spec Tryz.prog 69 [.ref b_o0 0 [], .lst (l_a1.map (D.int .i64)), .int .i64 most_a2, .int .i64 high_a3] [.cell b_o0 (enc_S_snapshot_writer c_0)] (fun d σ => d = .tup [] ∧ σ = [.cell b_o0 (enc_S_snapshot_writer res)]) := by
  unfold lf_Psnapshot_writer_numbers_s1 at hr
  refine spec_env [(0, .ref b_o0 0 []), (1, .lst (l_a1.map (D.int .i64))), (2, .int .i64 most_a2), (3, .int .i64 high_a3)] Tryz.func69 rfl rfl fun K hK => ?_
  refine g_seq ?_
  refine g_run (by kernel_rfl) [(0, .d), (1, .d)] rfl ?_
  refine r_d rfl rfl rfl (s_box rfl rfl rfl) ?_
  refine r_d rfl rfl rfl (s_box rfl rfl rfl) ?_
  refine r_end ?_
  refine g_run (by kernel_rfl) [(0, .d), (1, .d), (2, .d), (3, .d), (4, .w)] rfl ?_
  refine r_d rfl rfl rfl (s_load rfl rfl (by exact ty_P_snapshot_writer) rfl) ?_
  refine r_d rfl rfl rfl (s_move rfl rfl) ?_
  refine r_d rfl rfl rfl (s_move rfl rfl) ?_
  refine r_d rfl rfl rfl (s_makeFunc rfl rfl rfl) ?_
  obtain ⟨r_1, hr_1, hr⟩ := bindS hr
  refine r_w rfl rfl rfl (s_call _ rfl cl_snapshot_list_int (.cons rfl (Wk.refl _) (.cons rfl (Wk.refl _) (.cons rfl (Wk.refl _) (.cons rfl (Wk.refl _) .nil)))) (by exact (pf0 _)) (lg_snapshot_list_s10 _ _ _ _ _ _ hr_1)) ?_
  rintro _ _ ⟨_, ⟨rfl, rfl⟩, rfl⟩
  refine r_st ((.cell b_o0 (enc_S_snapshot_writer r_1)) :: _) rfl ?_
  refine r_end ?_
  obtain rfl := Option.some.inj hr
  refine g_end Tryz.func69 _ .nil ?_
  exact ⟨rfl, rfl⟩

noncomputable def lf_snapshot_Config_3_s1 (f_a0 : S_api_Fire) (c_0 : S_snapshot_writer) : Option (S_snapshot_writer) :=
  ((lf_Psnapshot_writer_number_s1 f_a0.f0_Rule 0 40 c_0).bind fun r_1 =>
  ((lf_Psnapshot_writer_numbers_s1 f_a0.f1_IDs 4 2147483648 r_1).bind fun r_2 =>
  some (r_2)))

set_option maxHeartbeats 1000000 in
theorem lg_snapshot_Config_3_s1 (f_a0 : S_api_Fire) (c_0 : S_snapshot_writer) (b_o0 : Nat) (res : S_snapshot_writer) (hr : lf_snapshot_Config_3_s1 f_a0 c_0 = some res) : Spec Tryz.prog 68 [enc_S_api_Fire f_a0, .ptr (.ref b_o0 0 [])] [.cell b_o0 (enc_S_snapshot_writer c_0)] (fun d σ => d = .tup [] ∧ σ = [.cell b_o0 (enc_S_snapshot_writer res)]) := by
  unfold lf_snapshot_Config_3_s1 at hr
  refine spec_env [(0, enc_S_api_Fire f_a0), (1, .ptr (.ref b_o0 0 []))] Tryz.func68 rfl rfl fun K hK => ?_
  refine g_seq ?_
  refine g_run (by kernel_rfl) [(0, .d)] rfl ?_
  refine r_d rfl rfl rfl (s_box rfl rfl rfl) ?_
  refine r_end ?_
  refine g_seq ?_
  refine g_run (by kernel_rfl) [(0, .d), (1, .d), (2, .d), (3, .w)] rfl ?_
  refine r_d rfl rfl rfl (s_load rfl rfl (by exact ty_P_snapshot_writer) rfl) ?_
  refine r_d rfl rfl rfl (s_fieldAddr rfl fl_api_Fire_0 rfl rfl rfl rfl) ?_
  refine r_d rfl rfl rfl (s_load rfl rfl (by exact ty_int) rfl) ?_
  obtain ⟨r_1, hr_1, hr⟩ := bindS hr
  refine r_w rfl rfl rfl (s_call _ rfl cl_Psnapshot_writer_number (.cons rfl (Wk.refl _) (.cons rfl (Wk.refl _) (.cons rfl (Wk.refl _) (.cons rfl (Wk.refl _) .nil)))) (by exact (pf0 _)) (lg_Psnapshot_writer_number_s1 _ _ _ _ _ _ hr_1)) ?_
  rintro _ _ ⟨_, ⟨rfl, rfl⟩, rfl⟩
  refine r_st ((.cell b_o0 (enc_S_snapshot_writer r_1)) :: _) rfl ?_
  refine r_end ?_
  refine g_run (by kernel_rfl) [(0, .d), (1, .d), (2, .d), (3, .w)] rfl ?_
  refine r_d rfl rfl rfl (s_load rfl rfl (by exact ty_P_snapshot_writer) rfl) ?_
  refine r_d rfl rfl rfl (s_fieldAddr rfl fl_api_Fire_1 rfl rfl rfl rfl) ?_
  refine r_d rfl rfl rfl (s_load rfl rfl (by exact ty_L_int) rfl) ?_
  obtain ⟨r_2, hr_2, hr⟩ := bindS hr
  refine r_w rfl rfl rfl (s_call _ rfl cl_Psnapshot_writer_numbers (.cons rfl (Wk.refl _) (.cons rfl (Wk.refl _) (.cons rfl (Wk.refl _) (.cons rfl (Wk.refl _) .nil)))) (by exact (pf0 _)) (lg_Psnapshot_writer_numbers_s1 _ _ _ _ _ _ hr_2)) ?_
  rintro _ _ ⟨_, ⟨rfl, rfl⟩, rfl⟩
  refine r_st ((.cell b_o0 (enc_S_snapshot_writer r_2)) :: _) rfl ?_
  refine r_end ?_
  obtain rfl := Option.some.inj hr
  refine g_end Tryz.func68 _ .nil ?_
  exact ⟨rfl, rfl⟩

noncomputable def lf_snapshot_list_s9_L0 (k : (S_snapshot_writer) → Option (S_snapshot_writer)) : List S_api_Fire → S_snapshot_writer → Option (S_snapshot_writer)
  | [], w_4 =>
  (k w_4)
  | q_6 :: rest, w_4 =>
  ((lf_snapshot_Config_3_s1 q_6 w_4).bind fun r_8 =>
  (lf_snapshot_list_s9_L0 k rest r_8))
noncomputable def lf_snapshot_list_s9 (l_a1 : (List S_api_Fire)) (most_a2 : Int) (c_0 : S_snapshot_writer) : Option (S_snapshot_writer) :=
  ((lf_Psnapshot_writer_number_s1 (l_a1.length : Int) 0 most_a2 c_0).bind fun r_1 =>
  (bif r_1.f1_bad then
  some (r_1)
  else
  (lf_snapshot_list_s9_L0 (fun w_5 =>
  some (w_5)) l_a1 r_1)))

set_option maxHeartbeats 1000000 in
theorem lg_snapshot_list_s9 (l_a1 : (List S_api_Fire)) (most_a2 : Int) (c_0 : S_snapshot_writer) (b_o0 : Nat) (res : S_snapshot_writer) (hr : lf_snapshot_list_s9 l_a1 most_a2 c_0 = some res) : Spec Tryz.prog 67 [.ref b_o0 0 [], .lst (l_a1.map enc_S_api_Fire), .int .i64 most_a2, .clo (.func 68) [] [.ptr (.ref b_o0 0 [])]] [.cell b_o0 (enc_S_snapshot_writer c_0)] (fun d σ => d = .tup [] ∧ σ = [.cell b_o0 (enc_S_snapshot_writer res)]) := by
  unfold lf_snapshot_list_s9 at hr
  refine spec_env [(0, .ref b_o0 0 []), (1, .lst (l_a1.map enc_S_api_Fire)), (2, .int .i64 most_a2), (3, .clo (.func 68) [] [.ptr (.ref b_o0 0 [])])] Tryz.func67 rfl rfl fun K hK => ?_
  refine g_seq ?_
  refine g_run (by kernel_rfl) [(0, .d), (1, .d), (2, .d), (3, .d), (4, .w)] rfl ?_
  refine r_d rfl rfl rfl (s_move rfl rfl) ?_
  refine r_d rfl rfl rfl (s_move rfl rfl) ?_
  refine r_d rfl rfl rfl (m_len (f := enc_S_api_Fire) l_a1 rfl el_L_api_Fire rfl (asl rfl)) ?_
  refine r_d rfl rfl rfl (s_move rfl rfl) ?_
  obtain ⟨r_1, hr_1, hr⟩ := bindS hr
  refine r_w rfl rfl rfl (s_call _ rfl cl_Psnapshot_writer_number (.cons rfl (Wk.refl _) (.cons rfl (Wk.refl _) (.cons rfl (Wk.refl _) (.cons rfl (Wk.refl _) .nil)))) (by exact (pf0 _)) (lg_Psnapshot_writer_number_s1 _ _ _ _ _ _ hr_1)) ?_
  rintro _ _ ⟨_, ⟨rfl, rfl⟩, rfl⟩
  refine r_st ((.cell b_o0 (enc_S_snapshot_writer r_1)) :: _) rfl ?_
  refine r_end ?_
  refine g_seq ?_
  refine g_seq ?_
  refine g_run (by kernel_rfl) [(0, .d), (1, .d), (2, .d), (3, .r)] rfl ?_
  refine r_d rfl rfl rfl (s_move rfl rfl) ?_
  refine r_d rfl rfl rfl (s_nilCheckR rfl rfl) ?_
  refine r_d rfl rfl rfl (s_fieldRef rfl fl_snapshot_writer_1 rfl) ?_
  refine r_r rfl rfl rfl (t_loadRef rfl rfl (.head _) rfl rfl (by exact ty_bool) rfl) ?_
  refine r_end ?_
  refine g_sB 18 rfl hr (fun h18_1 hr => ?_) (fun h18_1 hr => ?_)
  ·
   refine g_condT rfl ?_
   obtain rfl := Option.some.inj hr
   refine g_ret Tryz.func67 _ .nil ?_
   exact ⟨rfl, rfl⟩
  ·
   refine g_condF rfl ?_
   refine g_skip ?_
   refine g_seq ?_
   refine g_run (by kernel_rfl) [(0, .d), (1, .d), (2, .d)] rfl ?_
   refine r_d rfl rfl rfl (s_move rfl rfl) ?_
   refine r_d rfl rfl rfl (m_len (f := enc_S_api_Fire) l_a1 rfl el_L_api_Fire rfl (asl rfl)) ?_
   refine r_d rfl rfl rfl (s_move rfl rfl) ?_
   refine r_end ?_
   obtain ⟨kk0, hkk0, hr⟩ := exK (fun k => lf_snapshot_list_s9_L0 k l_a1 r_1) hr
   refine g_len 1 rfl (asl rfl) fun hla0 => ?_
   simp only [List.length_map] at hla0
   refine g_blockJ (fun env σ => ∃ (w_5 : S_snapshot_writer), env = [] ∧ σ = [.cell b_o0 (enc_S_snapshot_writer w_5)] ∧ kk0 w_5 = some res) ?_ (fun HK0 => ?_)
   ·
    rintro _ _ ⟨w_5, rfl, rfl, hr⟩
    rw [hkk0] at hr
    obtain rfl := Option.some.inj hr
    refine g_end Tryz.func67 _ .nil ?_
    exact ⟨rfl, rfl⟩
   ·
    refine g_sub [(3, .clo (.func 68) [] [.ptr (.ref b_o0 0 [])]), (19, .lst (l_a1.map enc_S_api_Fire)), (20, .int .i64 (l_a1.length : Int)), (21, .int .i64 ((0 : Nat) : Int))] (Sub.cons' rfl (Sub.cons' rfl (Sub.cons' rfl (Sub.cons' rfl (Sub.nil _))))) ?_
    refine g_loop (fun n env σ => ∃ (i_3 : Nat) (w_4 : S_snapshot_writer), (n = l_a1.length - i_3) ∧ (env = [(3, .clo (.func 68) [] [.ptr (.ref b_o0 0 [])]), (19, .lst (l_a1.map enc_S_api_Fire)), (20, .int .i64 (l_a1.length : Int)), (21, .int .i64 (i_3 : Int))]) ∧ (σ = [.cell b_o0 (enc_S_snapshot_writer w_4)]) ∧ (i_3 ≤ l_a1.length) ∧ (lf_snapshot_list_s9_L0 kk0 (l_a1.drop i_3) w_4 = some res)) _ ⟨0, r_1, rfl, rfl, rfl, Nat.zero_le _, hr⟩ ?_
    rintro n _ _ ⟨i_3, w_4, rfl, rfl, rfl, hi0, hr⟩ IH0
    rcases listStep l_a1 i_3 hi0 with ⟨ht0, hd0, he0⟩ | ⟨q_6, ht0, hd0, hq0, hlt0⟩
    ·
     rw [hd0, lf_snapshot_list_s9_L0] at hr
     refine g_seq ?_
     refine g_run (by kernel_rfl) [(0, .d)] rfl ?_
     refine r_d rfl rfl rfl (s_cmp rfl rfl rfl rfl) ?_
     refine r_end ?_
     refine g_seq ?_
     refine g_known 22 false rfl ht0 ?_
     refine g_condF rfl ?_
     refine g_exit rfl ?_
     refine g_sub [] (Sub.nil _) ?_
     exact HK0 _ _ ⟨w_4, rfl, rfl, hr⟩
    ·
     rw [hd0, lf_snapshot_list_s9_L0] at hr
     refine g_seq ?_
     refine g_run (by kernel_rfl) [(0, .d)] rfl ?_
     refine r_d rfl rfl rfl (s_cmp rfl rfl rfl rfl) ?_
     refine r_end ?_
     refine g_seq ?_
     refine g_known 22 true rfl ht0 ?_
     refine g_condT rfl ?_
     refine g_skip ?_
     refine g_seq ?_
     refine g_block ?_
     refine g_seq ?_
     refine g_run (by kernel_rfl) [(0, .d), (1, .d), (2, .w), (3, .w)] rfl ?_
     refine r_d rfl rfl rfl (m_index (f := enc_S_api_Fire) l_a1 rfl el_L_api_Fire rfl (asl rfl) rfl hq0 sz_S_api_Fire rfl) ?_
     refine r_d rfl rfl rfl (s_load rfl rfl (by exact ty_api_Fire) (sz_S_api_Fire _)) ?_
     refine r_w rfl rfl rfl (s_alloc rfl zv_api_Fire) ?_
     rintro _ _ ⟨b9_6, rfl, rfl⟩
     refine r_w01 rfl rfl rfl (t_store0 _ rfl rfl rfl (Wk.refl _) (pf0 _) (by exact ty_api_Fire) (sz_S_api_Fire _) rfl rfl) ?_
     refine r_end ?_
     refine g_freeze 9 b9_6 rfl (pf0 _) ?_
     refine g_run (by kernel_rfl) [(0, .d), (1, .d), (2, .w)] rfl ?_
     refine r_d rfl rfl rfl (s_move rfl rfl) ?_
     refine r_d rfl rfl rfl (s_load rfl rfl (by exact ty_api_Fire) (sz_S_api_Fire _)) ?_
     obtain ⟨r_8, hr_8, hr⟩ := bindS hr
     refine r_w rfl rfl rfl (s_callV _ rfl rfl cl_snapshot_Config_3 (.cons rfl (Wk.refl _) .nil) rfl (by exact (pf0 _)) (lg_snapshot_Config_3_s1 _ _ _ _ hr_8)) ?_
     rintro _ _ ⟨_, ⟨rfl, rfl⟩, rfl⟩
     refine r_st ((.cell b_o0 (enc_S_snapshot_writer r_8)) :: _) rfl ?_
     refine r_end ?_
     refine g_inBlock ?_
     refine g_run (by kernel_rfl) [(0, .d), (1, .d)] rfl ?_
     refine r_d rfl rfl rfl (s_ar (r := ((i_3 + 1 : Nat) : Int)) rfl rfl rfl (by simp [iar]) (by omega)) ?_
     refine r_d rfl rfl rfl (s_move rfl rfl) ?_
     refine r_end ?_
     refine g_sub [(3, .clo (.func 68) [] [.ptr (.ref b_o0 0 [])]), (19, .lst (l_a1.map enc_S_api_Fire)), (20, .int .i64 (l_a1.length : Int)), (21, .int .i64 ((i_3 + 1 : Nat) : Int))] (Sub.cons' rfl (Sub.cons' rfl (Sub.cons' rfl (Sub.cons' rfl (Sub.nil _))))) ?_
     exact IH0 _ _ _ (by omega) ⟨(i_3 + 1), r_8, rfl, rfl, rfl, (by omega), hr⟩

noncomputable def lf_snapshot_Config (fuel : Nat) (c_a0 : S_api_Config) : Option ((List Int)) :=
  ((lf_Psnapshot_writer_number_s1 2 2 2 (⟨[], false⟩ : S_snapshot_writer)).bind fun r_3 =>
  ((lf_snapshot_list_s6 fuel c_a0.f0_Stack 1000 r_3).bind fun r_4 =>
  ((lf_snapshot_list_s7 fuel c_a0.f1_Store 500 r_4).bind fun r_5 =>
  ((lf_snapshot_list_s8 fuel c_a0.f2_Binds 1048576 r_5).bind fun r_6 =>
  ((lf_snapshot_list_s9 c_a0.f3_Fired 5000 r_6).bind fun r_7 =>
  ((lf_Psnapshot_writer_number_s1 c_a0.f4_Next 0 2147483648 r_7).bind fun r_8 =>
  ((lf_Psnapshot_writer_number_s1 c_a0.f5_Fresh 0 1048576 r_8).bind fun r_9 =>
  ((x_cPutBool r_9.f0_b c_a0.f6_Failed).bind fun r_10 =>
  ((lf_Psnapshot_writer_out_s1 (⟨r_10, r_9.f1_bad⟩ : S_snapshot_writer)).bind fun r_11 =>
  some (r_11))))))))))

set_option maxHeartbeats 1000000 in
theorem lg_snapshot_Config (fuel : Nat) (c_a0 : S_api_Config) (res : (List Int)) (hr : lf_snapshot_Config fuel c_a0 = some res) : Gives Tryz.prog 17 [enc_S_api_Config c_a0] (.lst (res.map (D.int .u8))) := by
  unfold lf_snapshot_Config at hr
  refine spec_env [(0, enc_S_api_Config c_a0)] Tryz.func17 rfl rfl fun K hK => ?_
  refine g_seq ?_
  refine g_run (by kernel_rfl) [(0, .d), (1, .d)] rfl ?_
  refine r_d rfl rfl rfl (s_box rfl rfl rfl) ?_
  refine r_d rfl rfl rfl (s_assign rfl rfl) ?_
  refine r_end ?_
  refine g_seq ?_
  refine g_run (by kernel_rfl) [(0, .d), (1, .w), (2, .w), (3, .w)] rfl ?_
  refine r_d rfl rfl rfl (s_build rfl bt_snapshot_writer .nil (.nil _)) ?_
  refine r_w rfl rfl rfl (s_boxRef rfl rfl rfl) ?_
  rintro _ _ ⟨b5_0, rfl, rfl⟩
  refine r_w rfl rfl rfl (s_alloc rfl zvx_P_snapshot_writer) ?_
  rintro _ _ ⟨b3_1, rfl, rfl⟩
  refine r_w01 rfl rfl rfl (t_store0 _ rfl rfl rfl (Wk.refl _) (pf0 _) (by exact ty_P_snapshot_writer) rfl rfl rfl) ?_
  refine r_end ?_
  refine g_freeze 3 b3_1 rfl (pf0 _) ?_
  refine g_seq ?_
  refine g_run (by kernel_rfl) [(0, .d), (1, .w)] rfl ?_
  refine r_d rfl rfl rfl (s_load rfl rfl (by exact ty_P_snapshot_writer) rfl) ?_
  obtain ⟨r_3, hr_3, hr⟩ := bindS hr
  refine r_w rfl rfl rfl (s_call _ rfl cl_Psnapshot_writer_number (.cons rfl (Wk.refl _) (.cons rfl (Wk.refl _) (.cons rfl (Wk.refl _) (.cons rfl (Wk.refl _) .nil)))) (by exact (pf0 _)) (lg_Psnapshot_writer_number_s1 _ _ _ _ _ _ hr_3)) ?_
  rintro _ _ ⟨_, ⟨rfl, rfl⟩, rfl⟩
  refine r_st ((.cell b5_0 (enc_S_snapshot_writer r_3)) :: _) rfl ?_
  refine r_end ?_
  refine g_seq ?_
  refine g_run (by kernel_rfl) [(0, .d), (1, .d), (2, .d), (3, .d), (4, .d), (5, .w)] rfl ?_
  refine r_d rfl rfl rfl (s_load rfl rfl (by exact ty_P_snapshot_writer) rfl) ?_
  refine r_d rfl rfl rfl (s_fieldAddr rfl fl_api_Config_0 rfl rfl rfl rfl) ?_
  refine r_d rfl rfl rfl (s_load rfl rfl (by exact ty_L_api_Frame) rfl) ?_
  refine r_d rfl rfl rfl (s_load rfl rfl (by exact ty_P_snapshot_writer) rfl) ?_
  refine r_d rfl rfl rfl (s_makeFunc rfl rfl rfl) ?_
  obtain ⟨r_4, hr_4, hr⟩ := bindS hr
  refine r_w rfl rfl rfl (s_call _ rfl cl_snapshot_list_api_Frame (.cons rfl (Wk.refl _) (.cons rfl (Wk.refl _) (.cons rfl (Wk.refl _) (.cons rfl (Wk.refl _) .nil)))) (by exact (pf0 _)) (lg_snapshot_list_s6 fuel _ _ _ _ _ hr_4)) ?_
  rintro _ _ ⟨_, ⟨rfl, rfl⟩, rfl⟩
  refine r_st ((.cell b5_0 (enc_S_snapshot_writer r_4)) :: _) rfl ?_
  refine r_end ?_
  refine g_seq ?_
  refine g_run (by kernel_rfl) [(0, .d), (1, .d), (2, .d), (3, .d), (4, .w)] rfl ?_
  refine r_d rfl rfl rfl (s_load rfl rfl (by exact ty_P_snapshot_writer) rfl) ?_
  refine r_d rfl rfl rfl (s_fieldAddr rfl fl_api_Config_1 rfl rfl rfl rfl) ?_
  refine r_d rfl rfl rfl (s_load rfl rfl (by exact ty_L_api_Item) rfl) ?_
  refine r_d rfl rfl rfl (s_makeFunc rfl rfl rfl) ?_
  obtain ⟨r_5, hr_5, hr⟩ := bindS hr
  refine r_w rfl rfl rfl (s_call _ rfl cl_snapshot_list_api_Item (.cons rfl (Wk.refl _) (.cons rfl (Wk.refl _) (.cons rfl (Wk.refl _) (.cons rfl (Wk.refl _) .nil)))) (by exact (pf0 _)) (lg_snapshot_list_s7 fuel _ _ _ _ _ hr_5)) ?_
  rintro _ _ ⟨_, ⟨rfl, rfl⟩, rfl⟩
  refine r_st ((.cell b5_0 (enc_S_snapshot_writer r_5)) :: _) rfl ?_
  refine r_end ?_
  refine g_seq ?_
  refine g_run (by kernel_rfl) [(0, .d), (1, .d), (2, .d), (3, .d), (4, .w)] rfl ?_
  refine r_d rfl rfl rfl (s_load rfl rfl (by exact ty_P_snapshot_writer) rfl) ?_
  refine r_d rfl rfl rfl (s_fieldAddr rfl fl_api_Config_2 rfl rfl rfl rfl) ?_
  refine r_d rfl rfl rfl (s_load rfl rfl (by exact ty_api_Binds) rfl) ?_
  refine r_d rfl rfl rfl (s_makeFunc rfl rfl rfl) ?_
  obtain ⟨r_6, hr_6, hr⟩ := bindS hr
  refine r_w rfl rfl rfl (s_call _ rfl cl_snapshot_list_api_Bind (.cons rfl (Wk.refl _) (.cons rfl (Wk.refl _) (.cons rfl (Wk.refl _) (.cons rfl (Wk.refl _) .nil)))) (by exact (pf0 _)) (lg_snapshot_list_s8 fuel _ _ _ _ _ hr_6)) ?_
  rintro _ _ ⟨_, ⟨rfl, rfl⟩, rfl⟩
  refine r_st ((.cell b5_0 (enc_S_snapshot_writer r_6)) :: _) rfl ?_
  refine r_end ?_
  refine g_seq ?_
  refine g_run (by kernel_rfl) [(0, .d), (1, .d), (2, .d), (3, .d), (4, .w)] rfl ?_
  refine r_d rfl rfl rfl (s_load rfl rfl (by exact ty_P_snapshot_writer) rfl) ?_
  refine r_d rfl rfl rfl (s_fieldAddr rfl fl_api_Config_3 rfl rfl rfl rfl) ?_
  refine r_d rfl rfl rfl (s_load rfl rfl (by exact ty_L_api_Fire) rfl) ?_
  refine r_d rfl rfl rfl (s_makeFunc rfl rfl rfl) ?_
  obtain ⟨r_7, hr_7, hr⟩ := bindS hr
  refine r_w rfl rfl rfl (s_call _ rfl cl_snapshot_list_api_Fire (.cons rfl (Wk.refl _) (.cons rfl (Wk.refl _) (.cons rfl (Wk.refl _) (.cons rfl (Wk.refl _) .nil)))) (by exact (pf0 _)) (lg_snapshot_list_s9 _ _ _ _ _ hr_7)) ?_
  rintro _ _ ⟨_, ⟨rfl, rfl⟩, rfl⟩
  refine r_st ((.cell b5_0 (enc_S_snapshot_writer r_7)) :: _) rfl ?_
  refine r_end ?_
  refine g_seq ?_
  refine g_run (by kernel_rfl) [(0, .d), (1, .d), (2, .d), (3, .w)] rfl ?_
  refine r_d rfl rfl rfl (s_load rfl rfl (by exact ty_P_snapshot_writer) rfl) ?_
  refine r_d rfl rfl rfl (s_fieldAddr rfl fl_api_Config_4 rfl rfl rfl rfl) ?_
  refine r_d rfl rfl rfl (s_load rfl rfl (by exact ty_int) rfl) ?_
  obtain ⟨r_8, hr_8, hr⟩ := bindS hr
  refine r_w rfl rfl rfl (s_call _ rfl cl_Psnapshot_writer_number (.cons rfl (Wk.refl _) (.cons rfl (Wk.refl _) (.cons rfl (Wk.refl _) (.cons rfl (Wk.refl _) .nil)))) (by exact (pf0 _)) (lg_Psnapshot_writer_number_s1 _ _ _ _ _ _ hr_8)) ?_
  rintro _ _ ⟨_, ⟨rfl, rfl⟩, rfl⟩
  refine r_st ((.cell b5_0 (enc_S_snapshot_writer r_8)) :: _) rfl ?_
  refine r_end ?_
  refine g_seq ?_
  refine g_run (by kernel_rfl) [(0, .d), (1, .d), (2, .d), (3, .w)] rfl ?_
  refine r_d rfl rfl rfl (s_load rfl rfl (by exact ty_P_snapshot_writer) rfl) ?_
  refine r_d rfl rfl rfl (s_fieldAddr rfl fl_api_Config_5 rfl rfl rfl rfl) ?_
  refine r_d rfl rfl rfl (s_load rfl rfl (by exact ty_int) rfl) ?_
  obtain ⟨r_9, hr_9, hr⟩ := bindS hr
  refine r_w rfl rfl rfl (s_call _ rfl cl_Psnapshot_writer_number (.cons rfl (Wk.refl _) (.cons rfl (Wk.refl _) (.cons rfl (Wk.refl _) (.cons rfl (Wk.refl _) .nil)))) (by exact (pf0 _)) (lg_Psnapshot_writer_number_s1 _ _ _ _ _ _ hr_9)) ?_
  rintro _ _ ⟨_, ⟨rfl, rfl⟩, rfl⟩
  refine r_st ((.cell b5_0 (enc_S_snapshot_writer r_9)) :: _) rfl ?_
  refine r_end ?_
  refine g_seq ?_
  refine g_any (by kernel_rfl) (by kernel_rfl) [(0, .d), (1, .d), (2, .d), (3, .d), (4, .r), (5, .d), (6, .d), (7, .d), (8, .d), (9, .d), (10, .w)] (by kernel_rfl) ?_
  refine r_d rfl rfl rfl (s_load rfl rfl (by exact ty_P_snapshot_writer) rfl) ?_
  refine r_d rfl rfl rfl (s_load rfl rfl (by exact ty_P_snapshot_writer) rfl) ?_
  refine r_d rfl rfl rfl (s_nilCheckR rfl rfl) ?_
  refine r_d rfl rfl rfl (s_fieldRef rfl fl_snapshot_writer_0 rfl) ?_
  refine r_r rfl rfl rfl (t_loadRef rfl rfl (.head _) rfl rfl (by exact ty_L_uint8) rfl) ?_
  refine r_d rfl rfl rfl (s_fieldAddr rfl fl_api_Config_6 rfl rfl rfl rfl) ?_
  refine r_d rfl rfl rfl (s_load rfl rfl (by exact ty_bool) rfl) ?_
  obtain ⟨r_10, hr_10, hr⟩ := bindS hr
  refine r_d rfl rfl rfl (s_callD rfl cl_codec_PutBool (.cons rfl (Wk.refl _) (.cons rfl (Wk.refl _) .nil)) (lx_codec_PutBool _ _ _ hr_10)) ?_
  refine r_d rfl rfl rfl (s_nilCheckR rfl rfl) ?_
  refine r_d rfl rfl rfl (s_fieldRef rfl fl_snapshot_writer_0 rfl) ?_
  refine r_w01 rfl rfl rfl (t_store _ rfl rfl rfl (Wk.refl _) (pf0 _) rfl rfl (by exact ty_L_uint8) rfl rfl rfl) ?_
  refine r_end ?_
  refine g_seq ?_
  refine g_run (by kernel_rfl) [(0, .d), (1, .w), (2, .d)] rfl ?_
  refine r_d rfl rfl rfl (s_load rfl rfl (by exact ty_P_snapshot_writer) rfl) ?_
  obtain ⟨r_11, hr_11, hr⟩ := bindS hr
  refine r_w rfl rfl rfl (s_call _ rfl cl_Psnapshot_writer_out (.cons rfl (Wk.refl _) .nil) (by exact (pf0 _)) (lg_Psnapshot_writer_out_s1 _ _ _ hr_11)) ?_
  rintro _ _ ⟨_, ⟨rfl, rfl⟩, rfl⟩
  refine r_st ((.cell b5_0 (.agg [.lst (r_10.map (D.int .u8)), .bool r_9.f1_bad])) :: _) rfl ?_
  refine r_d rfl rfl rfl (s_assign rfl rfl) ?_
  refine r_end ?_
  obtain rfl := Option.some.inj hr
  refine g_ret Tryz.func17 _ (.cons (resTmp rfl (Wk.refl _)) .nil) ?_
  rfl

noncomputable def lf_Psnapshot_writer_fact_s1 (fuel : Nat) (f_a1 : S_api_Fact) (c_0 : S_snapshot_writer) : Option (S_snapshot_writer) :=
  ((lf_Psnapshot_writer_number_s1 f_a1.f0_ID 0 2147483648 c_0).bind fun r_1 =>
  ((lf_Psnapshot_writer_atom_s1 fuel f_a1.f1_Atom r_1).bind fun r_2 =>
  ((lf_Psnapshot_writer_numbers_s1 f_a1.f2_Just 64 64 r_2).bind fun r_3 =>
  some (r_3))))

set_option maxHeartbeats 1000000 in
theorem lg_Psnapshot_writer_fact_s1 (fuel : Nat) (f_a1 : S_api_Fact) (c_0 : S_snapshot_writer) (b_o0 : Nat) (res : S_snapshot_writer) (hr : lf_Psnapshot_writer_fact_s1 fuel f_a1 c_0 = some res) : Spec Tryz.prog 106 [.ref b_o0 0 [], enc_S_api_Fact f_a1] [.cell b_o0 (enc_S_snapshot_writer c_0)] (fun d σ => d = .tup [] ∧ σ = [.cell b_o0 (enc_S_snapshot_writer res)]) := by
  unfold lf_Psnapshot_writer_fact_s1 at hr
  refine spec_env [(0, .ref b_o0 0 []), (1, enc_S_api_Fact f_a1)] Tryz.func106 rfl rfl fun K hK => ?_
  refine g_seq ?_
  refine g_run (by kernel_rfl) [(0, .d)] rfl ?_
  refine r_d rfl rfl rfl (s_box rfl rfl rfl) ?_
  refine r_end ?_
  refine g_seq ?_
  refine g_run (by kernel_rfl) [(0, .d), (1, .d), (2, .d), (3, .w)] rfl ?_
  refine r_d rfl rfl rfl (s_move rfl rfl) ?_
  refine r_d rfl rfl rfl (s_fieldAddr rfl fl_api_Fact_0 rfl rfl rfl rfl) ?_
  refine r_d rfl rfl rfl (s_load rfl rfl (by exact ty_int) rfl) ?_
  obtain ⟨r_1, hr_1, hr⟩ := bindS hr
  refine r_w rfl rfl rfl (s_call _ rfl cl_Psnapshot_writer_number (.cons rfl (Wk.refl _) (.cons rfl (Wk.refl _) (.cons rfl (Wk.refl _) (.cons rfl (Wk.refl _) .nil)))) (by exact (pf0 _)) (lg_Psnapshot_writer_number_s1 _ _ _ _ _ _ hr_1)) ?_
  rintro _ _ ⟨_, ⟨rfl, rfl⟩, rfl⟩
  refine r_st ((.cell b_o0 (enc_S_snapshot_writer r_1)) :: _) rfl ?_
  refine r_end ?_
  refine g_seq ?_
  refine g_run (by kernel_rfl) [(0, .d), (1, .d), (2, .d), (3, .w)] rfl ?_
  refine r_d rfl rfl rfl (s_move rfl rfl) ?_
  refine r_d rfl rfl rfl (s_fieldAddr rfl fl_api_Fact_1 rfl rfl rfl rfl) ?_
  refine r_d rfl rfl rfl (s_load rfl rfl (by exact ty_api_Atom) (sz_encA _)) ?_
  obtain ⟨r_2, hr_2, hr⟩ := bindS hr
  refine r_w rfl rfl rfl (s_call _ rfl cl_Psnapshot_writer_atom (.cons rfl (Wk.refl _) (.cons rfl (Wk.refl _) .nil)) (by exact (pf0 _)) (lg_Psnapshot_writer_atom_s1 fuel _ _ _ _ hr_2)) ?_
  rintro _ _ ⟨_, ⟨rfl, rfl⟩, rfl⟩
  refine r_st ((.cell b_o0 (enc_S_snapshot_writer r_2)) :: _) rfl ?_
  refine r_end ?_
  refine g_run (by kernel_rfl) [(0, .d), (1, .d), (2, .d), (3, .w)] rfl ?_
  refine r_d rfl rfl rfl (s_move rfl rfl) ?_
  refine r_d rfl rfl rfl (s_fieldAddr rfl fl_api_Fact_2 rfl rfl (by simp [szs, sz, sz_encA]) rfl) ?_
  refine r_d rfl rfl rfl (s_load rfl rfl (by exact ty_L_int) rfl) ?_
  obtain ⟨r_3, hr_3, hr⟩ := bindS hr
  refine r_w rfl rfl rfl (s_call _ rfl cl_Psnapshot_writer_numbers (.cons rfl (Wk.refl _) (.cons rfl (Wk.refl _) (.cons rfl (Wk.refl _) (.cons rfl (Wk.refl _) .nil)))) (by exact (pf0 _)) (lg_Psnapshot_writer_numbers_s1 _ _ _ _ _ _ hr_3)) ?_
  rintro _ _ ⟨_, ⟨rfl, rfl⟩, rfl⟩
  refine r_st ((.cell b_o0 (enc_S_snapshot_writer r_3)) :: _) rfl ?_
  refine r_end ?_
  obtain rfl := Option.some.inj hr
  refine g_end Tryz.func106 _ .nil ?_
  exact ⟨rfl, rfl⟩

noncomputable def lf_snapshot_list_s11_L0 (k : (S_snapshot_writer) → Option (S_snapshot_writer)) (fuel : Nat) : List S_api_Fact → S_snapshot_writer → Option (S_snapshot_writer)
  | [], w_4 =>
  (k w_4)
  | q_6 :: rest, w_4 =>
  ((lf_Psnapshot_writer_fact_s1 fuel q_6 w_4).bind fun r_8 =>
  (lf_snapshot_list_s11_L0 k fuel rest r_8))
noncomputable def lf_snapshot_list_s11 (fuel : Nat) (l_a1 : (List S_api_Fact)) (most_a2 : Int) (c_0 : S_snapshot_writer) : Option (S_snapshot_writer) :=
  ((lf_Psnapshot_writer_number_s1 (l_a1.length : Int) 0 most_a2 c_0).bind fun r_1 =>
  (bif r_1.f1_bad then
  some (r_1)
  else
  (lf_snapshot_list_s11_L0 (fun w_5 =>
  some (w_5)) fuel l_a1 r_1)))

set_option maxHeartbeats 1000000 in
theorem lg_snapshot_list_s11 (fuel : Nat) (l_a1 : (List S_api_Fact)) (most_a2 : Int) (c_0 : S_snapshot_writer) (b_o0 : Nat) (res : S_snapshot_writer) (hr : lf_snapshot_list_s11 fuel l_a1 most_a2 c_0 = some res) : Spec Tryz.prog 105 [.ref b_o0 0 [], .lst (l_a1.map enc_S_api_Fact), .int .i64 most_a2, .clo (.func 106) [.ref b_o0 0 []] []] [.cell b_o0 (enc_S_snapshot_writer c_0)] (fun d σ => d = .tup [] ∧ σ = [.cell b_o0 (enc_S_snapshot_writer res)]) := by
  unfold lf_snapshot_list_s11 at hr
  refine spec_env [(0, .ref b_o0 0 []), (1, .lst (l_a1.map enc_S_api_Fact)), (2, .int .i64 most_a2), (3, .clo (.func 106) [.ref b_o0 0 []] [])] Tryz.func105 rfl rfl fun K hK => ?_
  refine g_seq ?_
  refine g_run (by kernel_rfl) [(0, .d), (1, .d), (2, .d), (3, .d), (4, .w)] rfl ?_
  refine r_d rfl rfl rfl (s_move rfl rfl) ?_
  refine r_d rfl rfl rfl (s_move rfl rfl) ?_
  refine r_d rfl rfl rfl (m_len (f := enc_S_api_Fact) l_a1 rfl el_L_api_Fact rfl (asl rfl)) ?_
  refine r_d rfl rfl rfl (s_move rfl rfl) ?_
  obtain ⟨r_1, hr_1, hr⟩ := bindS hr
  refine r_w rfl rfl rfl (s_call _ rfl cl_Psnapshot_writer_number (.cons rfl (Wk.refl _) (.cons rfl (Wk.refl _) (.cons rfl (Wk.refl _) (.cons rfl (Wk.refl _) .nil)))) (by exact (pf0 _)) (lg_Psnapshot_writer_number_s1 _ _ _ _ _ _ hr_1)) ?_
  rintro _ _ ⟨_, ⟨rfl, rfl⟩, rfl⟩
  refine r_st ((.cell b_o0 (enc_S_snapshot_writer r_1)) :: _) rfl ?_
  refine r_end ?_
  refine g_seq ?_
  refine g_seq ?_
  refine g_run (by kernel_rfl) [(0, .d), (1, .d), (2, .d), (3, .r)] rfl ?_
  refine r_d rfl rfl rfl (s_move rfl rfl) ?_
  refine r_d rfl rfl rfl (s_nilCheckR rfl rfl) ?_
  refine r_d rfl rfl rfl (s_fieldRef rfl fl_snapshot_writer_1 rfl) ?_
  refine r_r rfl rfl rfl (t_loadRef rfl rfl (.head _) rfl rfl (by exact ty_bool) rfl) ?_
  refine r_end ?_
  refine g_sB 18 rfl hr (fun h18_1 hr => ?_) (fun h18_1 hr => ?_)
  ·
   refine g_condT rfl ?_
   obtain rfl := Option.some.inj hr
   refine g_ret Tryz.func105 _ .nil ?_
   exact ⟨rfl, rfl⟩
  ·
   refine g_condF rfl ?_
   refine g_skip ?_
   refine g_seq ?_
   refine g_run (by kernel_rfl) [(0, .d), (1, .d), (2, .d)] rfl ?_
   refine r_d rfl rfl rfl (s_move rfl rfl) ?_
   refine r_d rfl rfl rfl (m_len (f := enc_S_api_Fact) l_a1 rfl el_L_api_Fact rfl (asl rfl)) ?_
   refine r_d rfl rfl rfl (s_move rfl rfl) ?_
   refine r_end ?_
   obtain ⟨kk0, hkk0, hr⟩ := exK (fun k => lf_snapshot_list_s11_L0 k fuel l_a1 r_1) hr
   refine g_len 1 rfl (asl rfl) fun hla0 => ?_
   simp only [List.length_map] at hla0
   refine g_blockJ (fun env σ => ∃ (w_5 : S_snapshot_writer), env = [] ∧ σ = [.cell b_o0 (enc_S_snapshot_writer w_5)] ∧ kk0 w_5 = some res) ?_ (fun HK0 => ?_)
   ·
    rintro _ _ ⟨w_5, rfl, rfl, hr⟩
    rw [hkk0] at hr
    obtain rfl := Option.some.inj hr
    refine g_end Tryz.func105 _ .nil ?_
    exact ⟨rfl, rfl⟩
   ·
    refine g_sub [(3, .clo (.func 106) [.ref b_o0 0 []] []), (19, .lst (l_a1.map enc_S_api_Fact)), (20, .int .i64 (l_a1.length : Int)), (21, .int .i64 ((0 : Nat) : Int))] (Sub.cons' rfl (Sub.cons' rfl (Sub.cons' rfl (Sub.cons' rfl (Sub.nil _))))) ?_
    refine g_loop (fun n env σ => ∃ (i_3 : Nat) (w_4 : S_snapshot_writer), (n = l_a1.length - i_3) ∧ (env = [(3, .clo (.func 106) [.ref b_o0 0 []] []), (19, .lst (l_a1.map enc_S_api_Fact)), (20, .int .i64 (l_a1.length : Int)), (21, .int .i64 (i_3 : Int))]) ∧ (σ = [.cell b_o0 (enc_S_snapshot_writer w_4)]) ∧ (i_3 ≤ l_a1.length) ∧ (lf_snapshot_list_s11_L0 kk0 fuel (l_a1.drop i_3) w_4 = some res)) _ ⟨0, r_1, rfl, rfl, rfl, Nat.zero_le _, hr⟩ ?_
    rintro n _ _ ⟨i_3, w_4, rfl, rfl, rfl, hi0, hr⟩ IH0
    rcases listStep l_a1 i_3 hi0 with ⟨ht0, hd0, he0⟩ | ⟨q_6, ht0, hd0, hq0, hlt0⟩
    ·
     rw [hd0, lf_snapshot_list_s11_L0] at hr
     refine g_seq ?_
     refine g_run (by kernel_rfl) [(0, .d)] rfl ?_
     refine r_d rfl rfl rfl (s_cmp rfl rfl rfl rfl) ?_
     refine r_end ?_
     refine g_seq ?_
     refine g_known 22 false rfl ht0 ?_
     refine g_condF rfl ?_
     refine g_exit rfl ?_
     refine g_sub [] (Sub.nil _) ?_
     exact HK0 _ _ ⟨w_4, rfl, rfl, hr⟩
    ·
     rw [hd0, lf_snapshot_list_s11_L0] at hr
     refine g_seq ?_
     refine g_run (by kernel_rfl) [(0, .d)] rfl ?_
     refine r_d rfl rfl rfl (s_cmp rfl rfl rfl rfl) ?_
     refine r_end ?_
     refine g_seq ?_
     refine g_known 22 true rfl ht0 ?_
     refine g_condT rfl ?_
     refine g_skip ?_
     refine g_seq ?_
     refine g_block ?_
     refine g_seq ?_
     refine g_run (by kernel_rfl) [(0, .d), (1, .d), (2, .w), (3, .w)] rfl ?_
     refine r_d rfl rfl rfl (m_index (f := enc_S_api_Fact) l_a1 rfl el_L_api_Fact rfl (asl rfl) rfl hq0 sz_S_api_Fact rfl) ?_
     refine r_d rfl rfl rfl (s_load rfl rfl (by exact ty_api_Fact) (sz_S_api_Fact _)) ?_
     refine r_w rfl rfl rfl (s_alloc rfl zv_api_Fact) ?_
     rintro _ _ ⟨b9_6, rfl, rfl⟩
     refine r_w01 rfl rfl rfl (t_store0 _ rfl rfl rfl (Wk.refl _) (pf0 _) (by exact ty_api_Fact) (sz_S_api_Fact _) (by simp [sz, szs, szs_fsT, sz_encA]) rfl) ?_
     refine r_end ?_
     refine g_freeze 9 b9_6 rfl (pf0 _) ?_
     refine g_run (by kernel_rfl) [(0, .d), (1, .d), (2, .w)] rfl ?_
     refine r_d rfl rfl rfl (s_move rfl rfl) ?_
     refine r_d rfl rfl rfl (s_load rfl rfl (by exact ty_api_Fact) (sz_S_api_Fact _)) ?_
     obtain ⟨r_8, hr_8, hr⟩ := bindS hr
     refine r_w rfl rfl rfl (s_callV _ rfl rfl cl_Psnapshot_writer_fact (.cons rfl (Wk.refl _) .nil) rfl (by exact (pf0 _)) (lg_Psnapshot_writer_fact_s1 fuel _ _ _ _ hr_8)) ?_
     rintro _ _ ⟨_, ⟨rfl, rfl⟩, rfl⟩
     refine r_st ((.cell b_o0 (enc_S_snapshot_writer r_8)) :: _) rfl ?_
     refine r_end ?_
     refine g_inBlock ?_
     refine g_run (by kernel_rfl) [(0, .d), (1, .d)] rfl ?_
     refine r_d rfl rfl rfl (s_ar (r := ((i_3 + 1 : Nat) : Int)) rfl rfl rfl (by simp [iar]) (by omega)) ?_
     refine r_d rfl rfl rfl (s_move rfl rfl) ?_
     refine r_end ?_
     refine g_sub [(3, .clo (.func 106) [.ref b_o0 0 []] []), (19, .lst (l_a1.map enc_S_api_Fact)), (20, .int .i64 (l_a1.length : Int)), (21, .int .i64 ((i_3 + 1 : Nat) : Int))] (Sub.cons' rfl (Sub.cons' rfl (Sub.cons' rfl (Sub.cons' rfl (Sub.nil _))))) ?_
     exact IH0 _ _ _ (by omega) ⟨(i_3 + 1), r_8, rfl, rfl, rfl, (by omega), hr⟩

noncomputable def lf_Psnapshot_writer_applied_s1 (x_a1 : S_api_Applied) (c_0 : S_snapshot_writer) : Option (S_snapshot_writer) :=
  ((lf_Psnapshot_writer_number_s1 x_a1.f0_Rule 0 40 c_0).bind fun r_1 =>
  ((lf_Psnapshot_writer_numbers_s1 x_a1.f1_Heads 4 2147483648 r_1).bind fun r_2 =>
  ((lf_Psnapshot_writer_numbers_s1 x_a1.f2_Gone 4 2147483648 r_2).bind fun r_3 =>
  ((lf_Psnapshot_writer_numbers_s1 x_a1.f3_Made 12 2147483648 r_3).bind fun r_4 =>
  ((x_cPutBool r_4.f0_b x_a1.f4_Failed).bind fun r_5 =>
  ((lf_Psnapshot_writer_numbers_s1 x_a1.f5_Just 64 64 (⟨r_5, r_4.f1_bad⟩ : S_snapshot_writer)).bind fun r_6 =>
  some (r_6)))))))

set_option maxHeartbeats 1000000 in
theorem lg_Psnapshot_writer_applied_s1 (x_a1 : S_api_Applied) (c_0 : S_snapshot_writer) (b_o0 : Nat) (res : S_snapshot_writer) (hr : lf_Psnapshot_writer_applied_s1 x_a1 c_0 = some res) : Spec Tryz.prog 108 [.ref b_o0 0 [], enc_S_api_Applied x_a1] [.cell b_o0 (enc_S_snapshot_writer c_0)] (fun d σ => d = .tup [] ∧ σ = [.cell b_o0 (enc_S_snapshot_writer res)]) := by
  unfold lf_Psnapshot_writer_applied_s1 at hr
  refine spec_env [(0, .ref b_o0 0 []), (1, enc_S_api_Applied x_a1)] Tryz.func108 rfl rfl fun K hK => ?_
  refine g_seq ?_
  refine g_run (by kernel_rfl) [(0, .d)] rfl ?_
  refine r_d rfl rfl rfl (s_box rfl rfl rfl) ?_
  refine r_end ?_
  refine g_seq ?_
  refine g_run (by kernel_rfl) [(0, .d), (1, .d), (2, .d), (3, .w)] rfl ?_
  refine r_d rfl rfl rfl (s_move rfl rfl) ?_
  refine r_d rfl rfl rfl (s_fieldAddr rfl fl_api_Applied_0 rfl rfl rfl rfl) ?_
  refine r_d rfl rfl rfl (s_load rfl rfl (by exact ty_int) rfl) ?_
  obtain ⟨r_1, hr_1, hr⟩ := bindS hr
  refine r_w rfl rfl rfl (s_call _ rfl cl_Psnapshot_writer_number (.cons rfl (Wk.refl _) (.cons rfl (Wk.refl _) (.cons rfl (Wk.refl _) (.cons rfl (Wk.refl _) .nil)))) (by exact (pf0 _)) (lg_Psnapshot_writer_number_s1 _ _ _ _ _ _ hr_1)) ?_
  rintro _ _ ⟨_, ⟨rfl, rfl⟩, rfl⟩
  refine r_st ((.cell b_o0 (enc_S_snapshot_writer r_1)) :: _) rfl ?_
  refine r_end ?_
  refine g_seq ?_
  refine g_run (by kernel_rfl) [(0, .d), (1, .d), (2, .d), (3, .w)] rfl ?_
  refine r_d rfl rfl rfl (s_move rfl rfl) ?_
  refine r_d rfl rfl rfl (s_fieldAddr rfl fl_api_Applied_1 rfl rfl rfl rfl) ?_
  refine r_d rfl rfl rfl (s_load rfl rfl (by exact ty_L_int) rfl) ?_
  obtain ⟨r_2, hr_2, hr⟩ := bindS hr
  refine r_w rfl rfl rfl (s_call _ rfl cl_Psnapshot_writer_numbers (.cons rfl (Wk.refl _) (.cons rfl (Wk.refl _) (.cons rfl (Wk.refl _) (.cons rfl (Wk.refl _) .nil)))) (by exact (pf0 _)) (lg_Psnapshot_writer_numbers_s1 _ _ _ _ _ _ hr_2)) ?_
  rintro _ _ ⟨_, ⟨rfl, rfl⟩, rfl⟩
  refine r_st ((.cell b_o0 (enc_S_snapshot_writer r_2)) :: _) rfl ?_
  refine r_end ?_
  refine g_seq ?_
  refine g_run (by kernel_rfl) [(0, .d), (1, .d), (2, .d), (3, .w)] rfl ?_
  refine r_d rfl rfl rfl (s_move rfl rfl) ?_
  refine r_d rfl rfl rfl (s_fieldAddr rfl fl_api_Applied_2 rfl rfl rfl rfl) ?_
  refine r_d rfl rfl rfl (s_load rfl rfl (by exact ty_L_int) rfl) ?_
  obtain ⟨r_3, hr_3, hr⟩ := bindS hr
  refine r_w rfl rfl rfl (s_call _ rfl cl_Psnapshot_writer_numbers (.cons rfl (Wk.refl _) (.cons rfl (Wk.refl _) (.cons rfl (Wk.refl _) (.cons rfl (Wk.refl _) .nil)))) (by exact (pf0 _)) (lg_Psnapshot_writer_numbers_s1 _ _ _ _ _ _ hr_3)) ?_
  rintro _ _ ⟨_, ⟨rfl, rfl⟩, rfl⟩
  refine r_st ((.cell b_o0 (enc_S_snapshot_writer r_3)) :: _) rfl ?_
  refine r_end ?_
  refine g_seq ?_
  refine g_run (by kernel_rfl) [(0, .d), (1, .d), (2, .d), (3, .w)] rfl ?_
  refine r_d rfl rfl rfl (s_move rfl rfl) ?_
  refine r_d rfl rfl rfl (s_fieldAddr rfl fl_api_Applied_3 rfl rfl rfl rfl) ?_
  refine r_d rfl rfl rfl (s_load rfl rfl (by exact ty_L_int) rfl) ?_
  obtain ⟨r_4, hr_4, hr⟩ := bindS hr
  refine r_w rfl rfl rfl (s_call _ rfl cl_Psnapshot_writer_numbers (.cons rfl (Wk.refl _) (.cons rfl (Wk.refl _) (.cons rfl (Wk.refl _) (.cons rfl (Wk.refl _) .nil)))) (by exact (pf0 _)) (lg_Psnapshot_writer_numbers_s1 _ _ _ _ _ _ hr_4)) ?_
  rintro _ _ ⟨_, ⟨rfl, rfl⟩, rfl⟩
  refine r_st ((.cell b_o0 (enc_S_snapshot_writer r_4)) :: _) rfl ?_
  refine r_end ?_
  refine g_seq ?_
  refine g_any (by kernel_rfl) (by kernel_rfl) [(0, .d), (1, .d), (2, .d), (3, .d), (4, .r), (5, .d), (6, .d), (7, .d), (8, .d), (9, .d), (10, .w)] (by kernel_rfl) ?_
  refine r_d rfl rfl rfl (s_move rfl rfl) ?_
  refine r_d rfl rfl rfl (s_move rfl rfl) ?_
  refine r_d rfl rfl rfl (s_nilCheckR rfl rfl) ?_
  refine r_d rfl rfl rfl (s_fieldRef rfl fl_snapshot_writer_0 rfl) ?_
  refine r_r rfl rfl rfl (t_loadRef rfl rfl (.head _) rfl rfl (by exact ty_L_uint8) rfl) ?_
  refine r_d rfl rfl rfl (s_fieldAddr rfl fl_api_Applied_4 rfl rfl rfl rfl) ?_
  refine r_d rfl rfl rfl (s_load rfl rfl (by exact ty_bool) rfl) ?_
  obtain ⟨r_5, hr_5, hr⟩ := bindS hr
  refine r_d rfl rfl rfl (s_callD rfl cl_codec_PutBool (.cons rfl (Wk.refl _) (.cons rfl (Wk.refl _) .nil)) (lx_codec_PutBool _ _ _ hr_5)) ?_
  refine r_d rfl rfl rfl (s_nilCheckR rfl rfl) ?_
  refine r_d rfl rfl rfl (s_fieldRef rfl fl_snapshot_writer_0 rfl) ?_
  refine r_w01 rfl rfl rfl (t_store _ rfl rfl rfl (Wk.refl _) (pf0 _) rfl rfl (by exact ty_L_uint8) rfl rfl rfl) ?_
  refine r_end ?_
  refine g_run (by kernel_rfl) [(0, .d), (1, .d), (2, .d), (3, .w)] rfl ?_
  refine r_d rfl rfl rfl (s_move rfl rfl) ?_
  refine r_d rfl rfl rfl (s_fieldAddr rfl fl_api_Applied_5 rfl rfl rfl rfl) ?_
  refine r_d rfl rfl rfl (s_load rfl rfl (by exact ty_L_int) rfl) ?_
  obtain ⟨r_6, hr_6, hr⟩ := bindS hr
  refine r_w rfl rfl rfl (s_call _ rfl cl_Psnapshot_writer_numbers (.cons rfl (Wk.refl _) (.cons rfl (Wk.refl _) (.cons rfl (Wk.refl _) (.cons rfl (Wk.refl _) .nil)))) (by exact (pf0 _)) (lg_Psnapshot_writer_numbers_s1 _ _ _ _ _ _ hr_6)) ?_
  rintro _ _ ⟨_, ⟨rfl, rfl⟩, rfl⟩
  refine r_st ((.cell b_o0 (enc_S_snapshot_writer r_6)) :: _) rfl ?_
  refine r_end ?_
  obtain rfl := Option.some.inj hr
  refine g_end Tryz.func108 _ .nil ?_
  exact ⟨rfl, rfl⟩

noncomputable def lf_snapshot_list_s12_L0 (k : (S_snapshot_writer) → Option (S_snapshot_writer)) : List S_api_Applied → S_snapshot_writer → Option (S_snapshot_writer)
  | [], w_4 =>
  (k w_4)
  | q_6 :: rest, w_4 =>
  ((lf_Psnapshot_writer_applied_s1 q_6 w_4).bind fun r_8 =>
  (lf_snapshot_list_s12_L0 k rest r_8))
noncomputable def lf_snapshot_list_s12 (l_a1 : (List S_api_Applied)) (most_a2 : Int) (c_0 : S_snapshot_writer) : Option (S_snapshot_writer) :=
  ((lf_Psnapshot_writer_number_s1 (l_a1.length : Int) 0 most_a2 c_0).bind fun r_1 =>
  (bif r_1.f1_bad then
  some (r_1)
  else
  (lf_snapshot_list_s12_L0 (fun w_5 =>
  some (w_5)) l_a1 r_1)))

set_option maxHeartbeats 1000000 in
theorem lg_snapshot_list_s12 (l_a1 : (List S_api_Applied)) (most_a2 : Int) (c_0 : S_snapshot_writer) (b_o0 : Nat) (res : S_snapshot_writer) (hr : lf_snapshot_list_s12 l_a1 most_a2 c_0 = some res) : Spec Tryz.prog 107 [.ref b_o0 0 [], .lst (l_a1.map enc_S_api_Applied), .int .i64 most_a2, .clo (.func 108) [.ref b_o0 0 []] []] [.cell b_o0 (enc_S_snapshot_writer c_0)] (fun d σ => d = .tup [] ∧ σ = [.cell b_o0 (enc_S_snapshot_writer res)]) := by
  unfold lf_snapshot_list_s12 at hr
  refine spec_env [(0, .ref b_o0 0 []), (1, .lst (l_a1.map enc_S_api_Applied)), (2, .int .i64 most_a2), (3, .clo (.func 108) [.ref b_o0 0 []] [])] Tryz.func107 rfl rfl fun K hK => ?_
  refine g_seq ?_
  refine g_run (by kernel_rfl) [(0, .d), (1, .d), (2, .d), (3, .d), (4, .w)] rfl ?_
  refine r_d rfl rfl rfl (s_move rfl rfl) ?_
  refine r_d rfl rfl rfl (s_move rfl rfl) ?_
  refine r_d rfl rfl rfl (m_len (f := enc_S_api_Applied) l_a1 rfl el_L_api_Applied rfl (asl rfl)) ?_
  refine r_d rfl rfl rfl (s_move rfl rfl) ?_
  obtain ⟨r_1, hr_1, hr⟩ := bindS hr
  refine r_w rfl rfl rfl (s_call _ rfl cl_Psnapshot_writer_number (.cons rfl (Wk.refl _) (.cons rfl (Wk.refl _) (.cons rfl (Wk.refl _) (.cons rfl (Wk.refl _) .nil)))) (by exact (pf0 _)) (lg_Psnapshot_writer_number_s1 _ _ _ _ _ _ hr_1)) ?_
  rintro _ _ ⟨_, ⟨rfl, rfl⟩, rfl⟩
  refine r_st ((.cell b_o0 (enc_S_snapshot_writer r_1)) :: _) rfl ?_
  refine r_end ?_
  refine g_seq ?_
  refine g_seq ?_
  refine g_run (by kernel_rfl) [(0, .d), (1, .d), (2, .d), (3, .r)] rfl ?_
  refine r_d rfl rfl rfl (s_move rfl rfl) ?_
  refine r_d rfl rfl rfl (s_nilCheckR rfl rfl) ?_
  refine r_d rfl rfl rfl (s_fieldRef rfl fl_snapshot_writer_1 rfl) ?_
  refine r_r rfl rfl rfl (t_loadRef rfl rfl (.head _) rfl rfl (by exact ty_bool) rfl) ?_
  refine r_end ?_
  refine g_sB 18 rfl hr (fun h18_1 hr => ?_) (fun h18_1 hr => ?_)
  ·
   refine g_condT rfl ?_
   obtain rfl := Option.some.inj hr
   refine g_ret Tryz.func107 _ .nil ?_
   exact ⟨rfl, rfl⟩
  ·
   refine g_condF rfl ?_
   refine g_skip ?_
   refine g_seq ?_
   refine g_run (by kernel_rfl) [(0, .d), (1, .d), (2, .d)] rfl ?_
   refine r_d rfl rfl rfl (s_move rfl rfl) ?_
   refine r_d rfl rfl rfl (m_len (f := enc_S_api_Applied) l_a1 rfl el_L_api_Applied rfl (asl rfl)) ?_
   refine r_d rfl rfl rfl (s_move rfl rfl) ?_
   refine r_end ?_
   obtain ⟨kk0, hkk0, hr⟩ := exK (fun k => lf_snapshot_list_s12_L0 k l_a1 r_1) hr
   refine g_len 1 rfl (asl rfl) fun hla0 => ?_
   simp only [List.length_map] at hla0
   refine g_blockJ (fun env σ => ∃ (w_5 : S_snapshot_writer), env = [] ∧ σ = [.cell b_o0 (enc_S_snapshot_writer w_5)] ∧ kk0 w_5 = some res) ?_ (fun HK0 => ?_)
   ·
    rintro _ _ ⟨w_5, rfl, rfl, hr⟩
    rw [hkk0] at hr
    obtain rfl := Option.some.inj hr
    refine g_end Tryz.func107 _ .nil ?_
    exact ⟨rfl, rfl⟩
   ·
    refine g_sub [(3, .clo (.func 108) [.ref b_o0 0 []] []), (19, .lst (l_a1.map enc_S_api_Applied)), (20, .int .i64 (l_a1.length : Int)), (21, .int .i64 ((0 : Nat) : Int))] (Sub.cons' rfl (Sub.cons' rfl (Sub.cons' rfl (Sub.cons' rfl (Sub.nil _))))) ?_
    refine g_loop (fun n env σ => ∃ (i_3 : Nat) (w_4 : S_snapshot_writer), (n = l_a1.length - i_3) ∧ (env = [(3, .clo (.func 108) [.ref b_o0 0 []] []), (19, .lst (l_a1.map enc_S_api_Applied)), (20, .int .i64 (l_a1.length : Int)), (21, .int .i64 (i_3 : Int))]) ∧ (σ = [.cell b_o0 (enc_S_snapshot_writer w_4)]) ∧ (i_3 ≤ l_a1.length) ∧ (lf_snapshot_list_s12_L0 kk0 (l_a1.drop i_3) w_4 = some res)) _ ⟨0, r_1, rfl, rfl, rfl, Nat.zero_le _, hr⟩ ?_
    rintro n _ _ ⟨i_3, w_4, rfl, rfl, rfl, hi0, hr⟩ IH0
    rcases listStep l_a1 i_3 hi0 with ⟨ht0, hd0, he0⟩ | ⟨q_6, ht0, hd0, hq0, hlt0⟩
    ·
     rw [hd0, lf_snapshot_list_s12_L0] at hr
     refine g_seq ?_
     refine g_run (by kernel_rfl) [(0, .d)] rfl ?_
     refine r_d rfl rfl rfl (s_cmp rfl rfl rfl rfl) ?_
     refine r_end ?_
     refine g_seq ?_
     refine g_known 22 false rfl ht0 ?_
     refine g_condF rfl ?_
     refine g_exit rfl ?_
     refine g_sub [] (Sub.nil _) ?_
     exact HK0 _ _ ⟨w_4, rfl, rfl, hr⟩
    ·
     rw [hd0, lf_snapshot_list_s12_L0] at hr
     refine g_seq ?_
     refine g_run (by kernel_rfl) [(0, .d)] rfl ?_
     refine r_d rfl rfl rfl (s_cmp rfl rfl rfl rfl) ?_
     refine r_end ?_
     refine g_seq ?_
     refine g_known 22 true rfl ht0 ?_
     refine g_condT rfl ?_
     refine g_skip ?_
     refine g_seq ?_
     refine g_block ?_
     refine g_seq ?_
     refine g_run (by kernel_rfl) [(0, .d), (1, .d), (2, .w), (3, .w)] rfl ?_
     refine r_d rfl rfl rfl (m_index (f := enc_S_api_Applied) l_a1 rfl el_L_api_Applied rfl (asl rfl) rfl hq0 sz_S_api_Applied rfl) ?_
     refine r_d rfl rfl rfl (s_load rfl rfl (by exact ty_api_Applied) (sz_S_api_Applied _)) ?_
     refine r_w rfl rfl rfl (s_alloc rfl zv_api_Applied) ?_
     rintro _ _ ⟨b9_6, rfl, rfl⟩
     refine r_w01 rfl rfl rfl (t_store0 _ rfl rfl rfl (Wk.refl _) (pf0 _) (by exact ty_api_Applied) (sz_S_api_Applied _) rfl rfl) ?_
     refine r_end ?_
     refine g_freeze 9 b9_6 rfl (pf0 _) ?_
     refine g_run (by kernel_rfl) [(0, .d), (1, .d), (2, .w)] rfl ?_
     refine r_d rfl rfl rfl (s_move rfl rfl) ?_
     refine r_d rfl rfl rfl (s_load rfl rfl (by exact ty_api_Applied) (sz_S_api_Applied _)) ?_
     obtain ⟨r_8, hr_8, hr⟩ := bindS hr
     refine r_w rfl rfl rfl (s_callV _ rfl rfl cl_Psnapshot_writer_applied (.cons rfl (Wk.refl _) .nil) rfl (by exact (pf0 _)) (lg_Psnapshot_writer_applied_s1 _ _ _ _ hr_8)) ?_
     rintro _ _ ⟨_, ⟨rfl, rfl⟩, rfl⟩
     refine r_st ((.cell b_o0 (enc_S_snapshot_writer r_8)) :: _) rfl ?_
     refine r_end ?_
     refine g_inBlock ?_
     refine g_run (by kernel_rfl) [(0, .d), (1, .d)] rfl ?_
     refine r_d rfl rfl rfl (s_ar (r := ((i_3 + 1 : Nat) : Int)) rfl rfl rfl (by simp [iar]) (by omega)) ?_
     refine r_d rfl rfl rfl (s_move rfl rfl) ?_
     refine r_end ?_
     refine g_sub [(3, .clo (.func 108) [.ref b_o0 0 []] []), (19, .lst (l_a1.map enc_S_api_Applied)), (20, .int .i64 (l_a1.length : Int)), (21, .int .i64 ((i_3 + 1 : Nat) : Int))] (Sub.cons' rfl (Sub.cons' rfl (Sub.cons' rfl (Sub.cons' rfl (Sub.nil _))))) ?_
     exact IH0 _ _ _ (by omega) ⟨(i_3 + 1), r_8, rfl, rfl, rfl, (by omega), hr⟩

noncomputable def lf_snapshot_Memory (fuel : Nat) (m_a0 : S_api_Memory) : Option ((List Int)) :=
  ((lf_Psnapshot_writer_number_s1 3 3 3 (⟨[], false⟩ : S_snapshot_writer)).bind fun r_2 =>
  ((lf_snapshot_list_s11 fuel m_a0.f0_Facts 5000 r_2).bind fun r_3 =>
  ((lf_snapshot_list_s11 fuel m_a0.f1_Past 5000 r_3).bind fun r_4 =>
  ((lf_snapshot_list_s12 m_a0.f2_Log 5000 r_4).bind fun r_5 =>
  ((lf_Psnapshot_writer_number_s1 m_a0.f3_Next 0 2147483648 r_5).bind fun r_6 =>
  ((lf_Psnapshot_writer_number_s1 m_a0.f4_Given 0 64 r_6).bind fun r_7 =>
  ((lf_Psnapshot_writer_out_s1 r_7).bind fun r_8 =>
  some (r_8))))))))

set_option maxHeartbeats 1000000 in
theorem lg_snapshot_Memory (fuel : Nat) (m_a0 : S_api_Memory) (res : (List Int)) (hr : lf_snapshot_Memory fuel m_a0 = some res) : Gives Tryz.prog 25 [enc_S_api_Memory m_a0] (.lst (res.map (D.int .u8))) := by
  unfold lf_snapshot_Memory at hr
  refine spec_env [(0, enc_S_api_Memory m_a0)] Tryz.func25 rfl rfl fun K hK => ?_
  refine g_seq ?_
  refine g_run (by kernel_rfl) [(0, .d), (1, .d)] rfl ?_
  refine r_d rfl rfl rfl (s_box rfl rfl rfl) ?_
  refine r_d rfl rfl rfl (s_assign rfl rfl) ?_
  refine r_end ?_
  refine g_seq ?_
  refine g_run (by kernel_rfl) [(0, .d), (1, .w), (2, .d)] rfl ?_
  refine r_d rfl rfl rfl (s_build rfl bt_snapshot_writer .nil (.nil _)) ?_
  refine r_w rfl rfl rfl (s_boxRef rfl rfl rfl) ?_
  rintro _ _ ⟨b5_0, rfl, rfl⟩
  refine r_d rfl rfl rfl (s_assign rfl rfl) ?_
  refine r_end ?_
  refine g_seq ?_
  refine g_run (by kernel_rfl) [(0, .d), (1, .w)] rfl ?_
  refine r_d rfl rfl rfl (s_move rfl rfl) ?_
  obtain ⟨r_2, hr_2, hr⟩ := bindS hr
  refine r_w rfl rfl rfl (s_call _ rfl cl_Psnapshot_writer_number (.cons rfl (Wk.refl _) (.cons rfl (Wk.refl _) (.cons rfl (Wk.refl _) (.cons rfl (Wk.refl _) .nil)))) (by exact (pf0 _)) (lg_Psnapshot_writer_number_s1 _ _ _ _ _ _ hr_2)) ?_
  rintro _ _ ⟨_, ⟨rfl, rfl⟩, rfl⟩
  refine r_st ((.cell b5_0 (enc_S_snapshot_writer r_2)) :: _) rfl ?_
  refine r_end ?_
  refine g_seq ?_
  refine g_run (by kernel_rfl) [(0, .d), (1, .d), (2, .d), (3, .d), (4, .d), (5, .w)] rfl ?_
  refine r_d rfl rfl rfl (s_move rfl rfl) ?_
  refine r_d rfl rfl rfl (s_fieldAddr rfl fl_api_Memory_0 rfl rfl rfl rfl) ?_
  refine r_d rfl rfl rfl (s_load rfl rfl (by exact ty_L_api_Fact) rfl) ?_
  refine r_d rfl rfl rfl (s_move rfl rfl) ?_
  refine r_d rfl rfl rfl (s_makeFunc rfl rfl rfl) ?_
  obtain ⟨r_3, hr_3, hr⟩ := bindS hr
  refine r_w rfl rfl rfl (s_call _ rfl cl_snapshot_list_api_Fact (.cons rfl (Wk.refl _) (.cons rfl (Wk.refl _) (.cons rfl (Wk.refl _) (.cons rfl (Wk.refl _) .nil)))) (by exact (pf0 _)) (lg_snapshot_list_s11 fuel _ _ _ _ _ hr_3)) ?_
  rintro _ _ ⟨_, ⟨rfl, rfl⟩, rfl⟩
  refine r_st ((.cell b5_0 (enc_S_snapshot_writer r_3)) :: _) rfl ?_
  refine r_end ?_
  refine g_seq ?_
  refine g_run (by kernel_rfl) [(0, .d), (1, .d), (2, .d), (3, .d), (4, .d), (5, .w)] rfl ?_
  refine r_d rfl rfl rfl (s_move rfl rfl) ?_
  refine r_d rfl rfl rfl (s_fieldAddr rfl fl_api_Memory_1 rfl rfl rfl rfl) ?_
  refine r_d rfl rfl rfl (s_load rfl rfl (by exact ty_L_api_Fact) rfl) ?_
  refine r_d rfl rfl rfl (s_move rfl rfl) ?_
  refine r_d rfl rfl rfl (s_makeFunc rfl rfl rfl) ?_
  obtain ⟨r_4, hr_4, hr⟩ := bindS hr
  refine r_w rfl rfl rfl (s_call _ rfl cl_snapshot_list_api_Fact (.cons rfl (Wk.refl _) (.cons rfl (Wk.refl _) (.cons rfl (Wk.refl _) (.cons rfl (Wk.refl _) .nil)))) (by exact (pf0 _)) (lg_snapshot_list_s11 fuel _ _ _ _ _ hr_4)) ?_
  rintro _ _ ⟨_, ⟨rfl, rfl⟩, rfl⟩
  refine r_st ((.cell b5_0 (enc_S_snapshot_writer r_4)) :: _) rfl ?_
  refine r_end ?_
  refine g_seq ?_
  refine g_run (by kernel_rfl) [(0, .d), (1, .d), (2, .d), (3, .d), (4, .d), (5, .w)] rfl ?_
  refine r_d rfl rfl rfl (s_move rfl rfl) ?_
  refine r_d rfl rfl rfl (s_fieldAddr rfl fl_api_Memory_2 rfl rfl rfl rfl) ?_
  refine r_d rfl rfl rfl (s_load rfl rfl (by exact ty_L_api_Applied) rfl) ?_
  refine r_d rfl rfl rfl (s_move rfl rfl) ?_
  refine r_d rfl rfl rfl (s_makeFunc rfl rfl rfl) ?_
  obtain ⟨r_5, hr_5, hr⟩ := bindS hr
  refine r_w rfl rfl rfl (s_call _ rfl cl_snapshot_list_api_Applied (.cons rfl (Wk.refl _) (.cons rfl (Wk.refl _) (.cons rfl (Wk.refl _) (.cons rfl (Wk.refl _) .nil)))) (by exact (pf0 _)) (lg_snapshot_list_s12 _ _ _ _ _ hr_5)) ?_
  rintro _ _ ⟨_, ⟨rfl, rfl⟩, rfl⟩
  refine r_st ((.cell b5_0 (enc_S_snapshot_writer r_5)) :: _) rfl ?_
  refine r_end ?_
  refine g_seq ?_
  refine g_run (by kernel_rfl) [(0, .d), (1, .d), (2, .d), (3, .w)] rfl ?_
  refine r_d rfl rfl rfl (s_move rfl rfl) ?_
  refine r_d rfl rfl rfl (s_fieldAddr rfl fl_api_Memory_3 rfl rfl rfl rfl) ?_
  refine r_d rfl rfl rfl (s_load rfl rfl (by exact ty_int) rfl) ?_
  obtain ⟨r_6, hr_6, hr⟩ := bindS hr
  refine r_w rfl rfl rfl (s_call _ rfl cl_Psnapshot_writer_number (.cons rfl (Wk.refl _) (.cons rfl (Wk.refl _) (.cons rfl (Wk.refl _) (.cons rfl (Wk.refl _) .nil)))) (by exact (pf0 _)) (lg_Psnapshot_writer_number_s1 _ _ _ _ _ _ hr_6)) ?_
  rintro _ _ ⟨_, ⟨rfl, rfl⟩, rfl⟩
  refine r_st ((.cell b5_0 (enc_S_snapshot_writer r_6)) :: _) rfl ?_
  refine r_end ?_
  refine g_seq ?_
  refine g_run (by kernel_rfl) [(0, .d), (1, .d), (2, .d), (3, .w)] rfl ?_
  refine r_d rfl rfl rfl (s_move rfl rfl) ?_
  refine r_d rfl rfl rfl (s_fieldAddr rfl fl_api_Memory_4 rfl rfl rfl rfl) ?_
  refine r_d rfl rfl rfl (s_load rfl rfl (by exact ty_int) rfl) ?_
  obtain ⟨r_7, hr_7, hr⟩ := bindS hr
  refine r_w rfl rfl rfl (s_call _ rfl cl_Psnapshot_writer_number (.cons rfl (Wk.refl _) (.cons rfl (Wk.refl _) (.cons rfl (Wk.refl _) (.cons rfl (Wk.refl _) .nil)))) (by exact (pf0 _)) (lg_Psnapshot_writer_number_s1 _ _ _ _ _ _ hr_7)) ?_
  rintro _ _ ⟨_, ⟨rfl, rfl⟩, rfl⟩
  refine r_st ((.cell b5_0 (enc_S_snapshot_writer r_7)) :: _) rfl ?_
  refine r_end ?_
  refine g_seq ?_
  refine g_run (by kernel_rfl) [(0, .d), (1, .w), (2, .d)] rfl ?_
  refine r_d rfl rfl rfl (s_move rfl rfl) ?_
  obtain ⟨r_8, hr_8, hr⟩ := bindS hr
  refine r_w rfl rfl rfl (s_call _ rfl cl_Psnapshot_writer_out (.cons rfl (Wk.refl _) .nil) (by exact (pf0 _)) (lg_Psnapshot_writer_out_s1 _ _ _ hr_8)) ?_
  rintro _ _ ⟨_, ⟨rfl, rfl⟩, rfl⟩
  refine r_st ((.cell b5_0 (enc_S_snapshot_writer r_7)) :: _) rfl ?_
  refine r_d rfl rfl rfl (s_assign rfl rfl) ?_
  refine r_end ?_
  obtain rfl := Option.some.inj hr
  refine g_ret Tryz.func25 _ (.cons (resTmp rfl (Wk.refl _)) .nil) ?_
  rfl

end Go.Proofs.YtdoljfkjdfaakaaGreat

