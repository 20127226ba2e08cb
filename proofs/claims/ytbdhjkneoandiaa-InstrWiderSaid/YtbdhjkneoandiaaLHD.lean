/-
  Texts of the seat, merged.
-/
import Derived.Test.YtbdhjkneoandiaaLHA
import Derived.Test.YtbdhjkneoandiaaLHB
import Derived.Test.YtbdhjkneoandiaaLHC
import Derived.Test.YtbdhjkneoandiaaChecked
import Derived.WalkKit
import Derived.Lib.Hide
import Derived.Lib.AppendStr
import Derived.Deep.AppendLies
import Derived.Deep.AppendSrc
import Derived.Deep.Draws
import Derived.Deep.QuietTactic
import Derived.BigQuiet
import Derived.Deep.RegionWith
import Derived.Maps.AppendAt
import Derived.WalkSpells
import Derived.Orders
import Derived.Deep.Slices
import Derived.Deep.Fields
import Derived.ChangeArms
import Derived.Lib.OthersKept
import Derived.Lib.TrimU
import Derived.Lib.IndexAny
import Derived.Deep.LoopGhost
import Derived.Lib.Bytealg
import Derived.RangeFuncBox
import Derived.RangeFuncNested
import Derived.RangeFuncBound
import Derived.RangeFuncCalls
import Derived.RangeFuncLeaves
import Derived.Shelf.Abstract
import Derived.OwnWalkIn
import Derived.TacticsInMore
import Derived.LoopNIn
import Derived.LoopIn
import Derived.RangeFuncWrites
import Derived.Maps.OwnIn
import Derived.Maps.Views
import Derived.Laws.OwnMore
import Derived.Maps.OwnSet
import Derived.Test.YtbdhjkneoandiaaRows
import Derived.ProofKit
import Derived.OpenShut
import Derived.Carry
import Derived.OrdersIn
import Derived.Great.BuildSlice
import Derived.ArgAppend
import Derived.Laws.MakeOwn
import Derived.Laws.Cover3
import Derived.Laws.CopyRow
import Derived.MapKept
import Derived.Maps.RangeRun
import Derived.DeepKeys5
import Derived.WideKeyRuns
set_option linter.unusedVariables false
set_option linter.unusedSimpArgs false
set_option linter.unnecessarySimpa false
set_option linter.all false

namespace Go.Proofs.Ytbdhjkneoandiaa
set_option maxRecDepth 100000
open Go.RowKit

structure S_api_Instr where
  f0_Op : Int
  f1_A : Int
  f2_B : Int
  f3_Goal : Gl
  f4_Terms : (List T)

def enc_S_api_Instr (x : S_api_Instr) : D := .agg [.int .i64 x.f0_Op, .int .i64 x.f1_A, .int .i64 x.f2_B, encG x.f3_Goal, .lst (x.f4_Terms.map encT)]

theorem sz_S_api_Instr (x : S_api_Instr) : sz (enc_S_api_Instr x) = 7 := by
  simp only [enc_S_api_Instr, sz, szs, sz_encG]

theorem ty_func_int__bool : Ty Try.prog 60 false 1 := ⟨⟨_, Try.underlying60, rfl⟩, by kernel_rfl⟩
theorem ty_func_api_Goal__bool : Ty Try.prog 61 false 1 := ⟨⟨_, Try.underlying61, rfl⟩, by kernel_rfl⟩
structure S_api_Occ where
  f0_Rule : Int
  f1_Head : Int
  f2_Kept : Bool

def enc_S_api_Occ (x : S_api_Occ) : D := .agg [.int .i64 x.f0_Rule, .int .i64 x.f1_Head, .bool x.f2_Kept]

theorem sz_S_api_Occ (x : S_api_Occ) : sz (enc_S_api_Occ x) = 3 := by
  simp only [enc_S_api_Occ, sz, szs]

structure S_api_Block where
  f0_Occ : S_api_Occ
  f1_Code : (List S_api_Instr)

def enc_S_api_Block (x : S_api_Block) : D := .agg [enc_S_api_Occ x.f0_Occ, .lst (x.f1_Code.map enc_S_api_Instr)]

theorem sz_S_api_Block (x : S_api_Block) : sz (enc_S_api_Block x) = 4 := by
  simp only [enc_S_api_Block, sz, szs, sz_S_api_Occ]

theorem zvx_instr_set : ZeroV Try.prog 104 (.agg [.bool false, .bool false, .bool false, .bool false]) := .val (.agg #[.bool false, .bool false, .bool false, .bool false]) rfl (by kernel_rfl) rfl

theorem are_instr_set : ArrE Try.prog 104 4 4 1 := ⟨Try.underlying104, by kernel_rfl⟩

theorem zm_bool : ZeroM Try.prog 4 (.bool false) := ⟨.bool false, by kernel_rfl, fun _ _ => by simp only [Rep]⟩

structure S_api_Unit where
  f0_Name : ByteArray
  f1_Arity : Int
  f2_Blocks : (List S_api_Block)
  f3_Never : Bool
  f4_Late : Int

def enc_S_api_Unit (x : S_api_Unit) : D := .agg [.str x.f0_Name, .int .i64 x.f1_Arity, .lst (x.f2_Blocks.map enc_S_api_Block), .bool x.f3_Never, .int .i64 x.f4_Late]

theorem sz_S_api_Unit (x : S_api_Unit) : sz (enc_S_api_Unit x) = 5 := by
  simp only [enc_S_api_Unit, sz, szs]

structure S_api_Access where
  f0_Name : ByteArray
  f1_Arity : Int
  f2_Positions : (List Int)

def enc_S_api_Access (x : S_api_Access) : D := .agg [.str x.f0_Name, .int .i64 x.f1_Arity, .lst (x.f2_Positions.map (D.int .i64))]

theorem sz_S_api_Access (x : S_api_Access) : sz (enc_S_api_Access x) = 3 := by
  simp only [enc_S_api_Access, sz, szs]

structure S_api_Image where
  f0_Units : (List S_api_Unit)
  f1_Access : (List S_api_Access)
  f2_Rules : Int

def enc_S_api_Image (x : S_api_Image) : D := .agg [.lst (x.f0_Units.map enc_S_api_Unit), .lst (x.f1_Access.map enc_S_api_Access), .int .i64 x.f2_Rules]

theorem sz_S_api_Image (x : S_api_Image) : sz (enc_S_api_Image x) = 3 := by
  simp only [enc_S_api_Image, sz, szs]

structure S_api_Decl where
  f0_Name : ByteArray
  f1_Arity : Int

def enc_S_api_Decl (x : S_api_Decl) : D := .agg [.str x.f0_Name, .int .i64 x.f1_Arity]

theorem sz_S_api_Decl (x : S_api_Decl) : sz (enc_S_api_Decl x) = 2 := by
  simp only [enc_S_api_Decl, sz, szs]

theorem btx_instr_checker : BuildT Try.prog 89 [.agg [.lst [], .lst [], .int .i64 0], .nilm] := .mk rfl (by kernel_rfl) Try.underlying89 (by kernel_rfl)

instance : DecidableEq S_api_Decl := fun a b => decidable_of_iff (a.f0_Name = b.f0_Name ∧ a.f1_Arity = b.f1_Arity) ⟨fun h => by cases a; cases b; simp at h; simp [h], fun h => by rw [h]; simp⟩
theorem wt_api_Decl : WideT Try.prog 108 enc_S_api_Decl (fun a => .agg #[.string a.f0_Name, .int .i64 a.f1_Arity]) := .mk' (fun a => [.str a.f0_Name, .int .i64 a.f1_Arity]) (by kernel_rfl) Try.underlying108 (by kernel_rfl) (by kernel_rfl) (by kernel_rfl) (by kernel_rfl) (by kernel_rfl) (fun _ => rfl) (fun _ => rfl) (fun _ => rfl) (fun a b h => by cases a; cases b; simp at h; simp [h])

theorem zm_api_Decl : ZeroM Try.prog 108 (.agg [.str ⟨#[]⟩, .int .i64 0]) := ⟨.agg #[.string ⟨#[]⟩, .int .i64 0], by kernel_rfl, fun _ _ => by simp only [Rep, Reps]; exact ⟨[.string ⟨#[]⟩, .int .i64 0], rfl, ⟨.string ⟨#[]⟩, [.int .i64 0], by simp [Value.cells], ⟨rfl, by decide⟩, ⟨.int .i64 0, [], by simp [Value.cells], ⟨rfl, rfl⟩, rfl⟩⟩, by simp [Value.oneCell']⟩⟩

theorem fv_api_Decl_1 : FldV Try.prog 108 1 1 3 := ⟨⟨_, _, Try.underlying108, rfl, rfl, rfl⟩⟩

theorem pt__2_int : PairT Try.prog 111 3 := ⟨Try.underlying111, by kernel_rfl, by kernel_rfl⟩

theorem kii__2_int : KeyOk Try.prog 111 encII (fun q => .agg #[.int .i64 q.1, .int .i64 q.2]) (fun v => ∃ l, keyOf Try.prog 111 v = some l) := keyII (by kernel_rfl) (by kernel_rfl) (by kernel_rfl) (by kernel_rfl) Try.underlying111 (by kernel_rfl) Try.underlying3 (by kernel_rfl)

theorem ty_func_api_Block__api_Block__bool : Ty Try.prog 75 false 1 := ⟨⟨_, Try.underlying75, rfl⟩, by kernel_rfl⟩
theorem zv_func_api_Block__api_Block__bool : ZeroV Try.prog 75 .nilf := .val .nilFunc rfl (by kernel_rfl) rfl

instance : DecidableEq S_api_Occ := fun a b => decidable_of_iff (a.f0_Rule = b.f0_Rule ∧ a.f1_Head = b.f1_Head ∧ a.f2_Kept = b.f2_Kept) ⟨fun h => by cases a; cases b; simp at h; simp [h], fun h => by rw [h]; simp⟩
theorem wt_api_Occ : WideT Try.prog 41 enc_S_api_Occ (fun a => .agg #[.int .i64 a.f0_Rule, .int .i64 a.f1_Head, .bool a.f2_Kept]) := .mk' (fun a => [.int .i64 a.f0_Rule, .int .i64 a.f1_Head, .bool a.f2_Kept]) (by kernel_rfl) Try.underlying41 (by kernel_rfl) (by kernel_rfl) (by kernel_rfl) (by kernel_rfl) (by kernel_rfl) (fun _ => rfl) (fun _ => rfl) (fun _ => rfl) (fun a b h => by cases a; cases b; simp at h; simp [h])

noncomputable def lf_instr_zero (n_a0 : Int) : Option (Bool) :=
  some ((n_a0 == (0 : Int)))

set_option maxHeartbeats 1000000 in
theorem lg_instr_zero (n_a0 : Int) (res : Bool) (hr : lf_instr_zero n_a0 = some res) : Gives Try.prog 59 [.int .i64 n_a0] (.bool res) := by
  unfold lf_instr_zero at hr
  refine spec_env [(0, .int .i64 n_a0)] Try.func59 rfl rfl fun K hK => ?_
  refine g_seq ?_
  refine g_run (by kernel_rfl) [(0, .d)] rfl ?_
  refine r_d rfl rfl rfl (s_assign rfl rfl) ?_
  refine r_end ?_
  refine g_seq ?_
  refine g_run (by kernel_rfl) [(0, .d), (1, .d), (2, .d)] rfl ?_
  refine r_d rfl rfl rfl (s_move rfl rfl) ?_
  refine r_d rfl rfl rfl (s_cmp rfl rfl rfl rfl) ?_
  refine r_d rfl rfl rfl (s_assign rfl rfl) ?_
  refine r_end ?_
  obtain rfl := Option.some.inj hr
  refine g_ret Try.func59 _ (.cons (resTmp rfl (Wk.refl _)) .nil) ?_
  rfl

noncomputable def lf_instr_register (n_a0 : Int) : Option (Bool) :=
  (bif (decide (n_a0 ≥ (0 : Int))) then
  some ((decide (n_a0 < (4 : Int))))
  else
  some (false))

set_option maxHeartbeats 1000000 in
theorem lg_instr_register (n_a0 : Int) (res : Bool) (hr : lf_instr_register n_a0 = some res) : Gives Try.prog 49 [.int .i64 n_a0] (.bool res) := by
  unfold lf_instr_register at hr
  refine spec_env [(0, .int .i64 n_a0)] Try.func49 rfl rfl fun K hK => ?_
  refine g_seq ?_
  refine g_run (by kernel_rfl) [(0, .d)] rfl ?_
  refine r_d rfl rfl rfl (s_assign rfl rfl) ?_
  refine r_end ?_
  refine g_seq ?_
  refine g_run (by kernel_rfl) [(0, .d), (1, .d), (2, .d), (3, .d), (4, .d), (5, .d), (6, .d)] rfl ?_
  refine r_d rfl rfl rfl (s_move rfl rfl) ?_
  refine r_d rfl rfl rfl (s_cmp rfl rfl rfl rfl) ?_
  refine r_d rfl rfl rfl (s_move rfl rfl) ?_
  refine r_sB 5 rfl hr (fun h5_0 hr => ?_) (fun h5_0 hr => ?_)
  ·
   refine r_d rfl rfl rfl (s_move rfl rfl) ?_
   refine r_d rfl rfl rfl (s_cmp rfl rfl rfl rfl) ?_
   refine r_d rfl rfl rfl (s_pickT rfl rfl rfl) ?_
   refine r_d rfl rfl rfl (s_assign rfl rfl) ?_
   refine r_end ?_
   obtain rfl := Option.some.inj hr
   refine g_ret Try.func49 _ (.cons (resTmp rfl (Wk.refl _)) .nil) ?_
   rfl
  ·
   refine r_skip rfl rfl rfl ?_
   refine r_skip rfl rfl rfl ?_
   refine r_d rfl rfl rfl (s_pickF rfl rfl rfl) ?_
   refine r_d rfl rfl rfl (s_assign rfl rfl) ?_
   refine r_end ?_
   obtain rfl := Option.some.inj hr
   refine g_ret Try.func49 _ (.cons (resTmp rfl (Wk.refl _)) .nil) ?_
   rfl

noncomputable def lf_instr_rule (n_a0 : Int) : Option (Bool) :=
  (bif (decide (n_a0 ≥ (0 : Int))) then
  some ((decide (n_a0 < (40 : Int))))
  else
  some (false))

set_option maxHeartbeats 1000000 in
theorem lg_instr_rule (n_a0 : Int) (res : Bool) (hr : lf_instr_rule n_a0 = some res) : Gives Try.prog 48 [.int .i64 n_a0] (.bool res) := by
  unfold lf_instr_rule at hr
  refine spec_env [(0, .int .i64 n_a0)] Try.func48 rfl rfl fun K hK => ?_
  refine g_seq ?_
  refine g_run (by kernel_rfl) [(0, .d)] rfl ?_
  refine r_d rfl rfl rfl (s_assign rfl rfl) ?_
  refine r_end ?_
  refine g_seq ?_
  refine g_run (by kernel_rfl) [(0, .d), (1, .d), (2, .d), (3, .d), (4, .d), (5, .d), (6, .d)] rfl ?_
  refine r_d rfl rfl rfl (s_move rfl rfl) ?_
  refine r_d rfl rfl rfl (s_cmp rfl rfl rfl rfl) ?_
  refine r_d rfl rfl rfl (s_move rfl rfl) ?_
  refine r_sB 5 rfl hr (fun h5_0 hr => ?_) (fun h5_0 hr => ?_)
  ·
   refine r_d rfl rfl rfl (s_move rfl rfl) ?_
   refine r_d rfl rfl rfl (s_cmp rfl rfl rfl rfl) ?_
   refine r_d rfl rfl rfl (s_pickT rfl rfl rfl) ?_
   refine r_d rfl rfl rfl (s_assign rfl rfl) ?_
   refine r_end ?_
   obtain rfl := Option.some.inj hr
   refine g_ret Try.func48 _ (.cons (resTmp rfl (Wk.refl _)) .nil) ?_
   rfl
  ·
   refine r_skip rfl rfl rfl ?_
   refine r_skip rfl rfl rfl ?_
   refine r_d rfl rfl rfl (s_pickF rfl rfl rfl) ?_
   refine r_d rfl rfl rfl (s_assign rfl rfl) ?_
   refine r_end ?_
   obtain rfl := Option.some.inj hr
   refine g_ret Try.func48 _ (.cons (resTmp rfl (Wk.refl _)) .nil) ?_
   rfl

noncomputable def lf_instr_heads (n_a0 : Int) : Option (Bool) :=
  (bif (decide (n_a0 ≥ (1 : Int))) then
  some ((decide (n_a0 ≤ (4 : Int))))
  else
  some (false))

set_option maxHeartbeats 1000000 in
theorem lg_instr_heads (n_a0 : Int) (res : Bool) (hr : lf_instr_heads n_a0 = some res) : Gives Try.prog 64 [.int .i64 n_a0] (.bool res) := by
  unfold lf_instr_heads at hr
  refine spec_env [(0, .int .i64 n_a0)] Try.func64 rfl rfl fun K hK => ?_
  refine g_seq ?_
  refine g_run (by kernel_rfl) [(0, .d)] rfl ?_
  refine r_d rfl rfl rfl (s_assign rfl rfl) ?_
  refine r_end ?_
  refine g_seq ?_
  refine g_run (by kernel_rfl) [(0, .d), (1, .d), (2, .d), (3, .d), (4, .d), (5, .d), (6, .d)] rfl ?_
  refine r_d rfl rfl rfl (s_move rfl rfl) ?_
  refine r_d rfl rfl rfl (s_cmp rfl rfl rfl rfl) ?_
  refine r_d rfl rfl rfl (s_move rfl rfl) ?_
  refine r_sB 5 rfl hr (fun h5_0 hr => ?_) (fun h5_0 hr => ?_)
  ·
   refine r_d rfl rfl rfl (s_move rfl rfl) ?_
   refine r_d rfl rfl rfl (s_cmp rfl rfl rfl rfl) ?_
   refine r_d rfl rfl rfl (s_pickT rfl rfl rfl) ?_
   refine r_d rfl rfl rfl (s_assign rfl rfl) ?_
   refine r_end ?_
   obtain rfl := Option.some.inj hr
   refine g_ret Try.func64 _ (.cons (resTmp rfl (Wk.refl _)) .nil) ?_
   rfl
  ·
   refine r_skip rfl rfl rfl ?_
   refine r_skip rfl rfl rfl ?_
   refine r_d rfl rfl rfl (s_pickF rfl rfl rfl) ?_
   refine r_d rfl rfl rfl (s_assign rfl rfl) ?_
   refine r_end ?_
   obtain rfl := Option.some.inj hr
   refine g_ret Try.func64 _ (.cons (resTmp rfl (Wk.refl _)) .nil) ?_
   rfl

noncomputable def lf_instr_position (n_a0 : Int) : Option (Bool) :=
  (bif (decide (n_a0 ≥ (0 : Int))) then
  some ((decide (n_a0 < (6 : Int))))
  else
  some (false))

set_option maxHeartbeats 1000000 in
theorem lg_instr_position (n_a0 : Int) (res : Bool) (hr : lf_instr_position n_a0 = some res) : Gives Try.prog 61 [.int .i64 n_a0] (.bool res) := by
  unfold lf_instr_position at hr
  refine spec_env [(0, .int .i64 n_a0)] Try.func61 rfl rfl fun K hK => ?_
  refine g_seq ?_
  refine g_run (by kernel_rfl) [(0, .d)] rfl ?_
  refine r_d rfl rfl rfl (s_assign rfl rfl) ?_
  refine r_end ?_
  refine g_seq ?_
  refine g_run (by kernel_rfl) [(0, .d), (1, .d), (2, .d), (3, .d), (4, .d), (5, .d), (6, .d)] rfl ?_
  refine r_d rfl rfl rfl (s_move rfl rfl) ?_
  refine r_d rfl rfl rfl (s_cmp rfl rfl rfl rfl) ?_
  refine r_d rfl rfl rfl (s_move rfl rfl) ?_
  refine r_sB 5 rfl hr (fun h5_0 hr => ?_) (fun h5_0 hr => ?_)
  ·
   refine r_d rfl rfl rfl (s_move rfl rfl) ?_
   refine r_d rfl rfl rfl (s_cmp rfl rfl rfl rfl) ?_
   refine r_d rfl rfl rfl (s_pickT rfl rfl rfl) ?_
   refine r_d rfl rfl rfl (s_assign rfl rfl) ?_
   refine r_end ?_
   obtain rfl := Option.some.inj hr
   refine g_ret Try.func61 _ (.cons (resTmp rfl (Wk.refl _)) .nil) ?_
   rfl
  ·
   refine r_skip rfl rfl rfl ?_
   refine r_skip rfl rfl rfl ?_
   refine r_d rfl rfl rfl (s_pickF rfl rfl rfl) ?_
   refine r_d rfl rfl rfl (s_assign rfl rfl) ?_
   refine r_end ?_
   obtain rfl := Option.some.inj hr
   refine g_ret Try.func61 _ (.cons (resTmp rfl (Wk.refl _)) .nil) ?_
   rfl

noncomputable def lf_instr_count (n_a0 : Int) : Option (Bool) :=
  some ((decide (n_a0 ≥ (0 : Int))))

set_option maxHeartbeats 1000000 in
theorem lg_instr_count (n_a0 : Int) (res : Bool) (hr : lf_instr_count n_a0 = some res) : Gives Try.prog 63 [.int .i64 n_a0] (.bool res) := by
  unfold lf_instr_count at hr
  refine spec_env [(0, .int .i64 n_a0)] Try.func63 rfl rfl fun K hK => ?_
  refine g_seq ?_
  refine g_run (by kernel_rfl) [(0, .d)] rfl ?_
  refine r_d rfl rfl rfl (s_assign rfl rfl) ?_
  refine r_end ?_
  refine g_seq ?_
  refine g_run (by kernel_rfl) [(0, .d), (1, .d), (2, .d)] rfl ?_
  refine r_d rfl rfl rfl (s_move rfl rfl) ?_
  refine r_d rfl rfl rfl (s_cmp rfl rfl rfl rfl) ?_
  refine r_d rfl rfl rfl (s_assign rfl rfl) ?_
  refine r_end ?_
  obtain rfl := Option.some.inj hr
  refine g_ret Try.func63 _ (.cons (resTmp rfl (Wk.refl _)) .nil) ?_
  rfl

noncomputable def lf_instr_vars (n_a0 : Int) : Option (Bool) :=
  (bif (decide (n_a0 ≥ (0 : Int))) then
  some ((decide (n_a0 ≤ (1048576 : Int))))
  else
  some (false))

set_option maxHeartbeats 1000000 in
theorem lg_instr_vars (n_a0 : Int) (res : Bool) (hr : lf_instr_vars n_a0 = some res) : Gives Try.prog 66 [.int .i64 n_a0] (.bool res) := by
  unfold lf_instr_vars at hr
  refine spec_env [(0, .int .i64 n_a0)] Try.func66 rfl rfl fun K hK => ?_
  refine g_seq ?_
  refine g_run (by kernel_rfl) [(0, .d)] rfl ?_
  refine r_d rfl rfl rfl (s_assign rfl rfl) ?_
  refine r_end ?_
  refine g_seq ?_
  refine g_run (by kernel_rfl) [(0, .d), (1, .d), (2, .d), (3, .d), (4, .d), (5, .d), (6, .d)] rfl ?_
  refine r_d rfl rfl rfl (s_move rfl rfl) ?_
  refine r_d rfl rfl rfl (s_cmp rfl rfl rfl rfl) ?_
  refine r_d rfl rfl rfl (s_move rfl rfl) ?_
  refine r_sB 5 rfl hr (fun h5_0 hr => ?_) (fun h5_0 hr => ?_)
  ·
   refine r_d rfl rfl rfl (s_move rfl rfl) ?_
   refine r_d rfl rfl rfl (s_cmp rfl rfl rfl rfl) ?_
   refine r_d rfl rfl rfl (s_pickT rfl rfl rfl) ?_
   refine r_d rfl rfl rfl (s_assign rfl rfl) ?_
   refine r_end ?_
   obtain rfl := Option.some.inj hr
   refine g_ret Try.func66 _ (.cons (resTmp rfl (Wk.refl _)) .nil) ?_
   rfl
  ·
   refine r_skip rfl rfl rfl ?_
   refine r_skip rfl rfl rfl ?_
   refine r_d rfl rfl rfl (s_pickF rfl rfl rfl) ?_
   refine r_d rfl rfl rfl (s_assign rfl rfl) ?_
   refine r_end ?_
   obtain rfl := Option.some.inj hr
   refine g_ret Try.func66 _ (.cons (resTmp rfl (Wk.refl _)) .nil) ?_
   rfl

noncomputable def lf_instr_none (g_a0 : Gl) : Option (Bool) :=
  (bif (g_a0.op == (0 : Int)) then
  (bif (g_a0.n.toList == (⟨#[]⟩ : ByteArray).toList) then
  some (((g_a0.ts.length : Int) == (0 : Int)))
  else
  some (false))
  else
  some (false))

set_option maxHeartbeats 1000000 in
theorem lg_instr_none (g_a0 : Gl) (res : Bool) (hr : lf_instr_none g_a0 = some res) : Gives Try.prog 60 [encG g_a0] (.bool res) := by
  unfold lf_instr_none at hr
  refine spec_env [(0, encG g_a0)] Try.func60 rfl rfl fun K hK => ?_
  refine g_seq ?_
  refine g_run (by kernel_rfl) [(0, .d), (1, .d)] rfl ?_
  refine r_d rfl rfl rfl (s_box rfl rfl rfl) ?_
  refine r_d rfl rfl rfl (s_assign rfl rfl) ?_
  refine r_end ?_
  refine g_seq ?_
  refine g_run (by kernel_rfl) [(0, .d), (1, .d), (2, .d), (3, .d), (4, .d), (5, .d), (6, .d), (7, .d), (8, .d), (9, .d), (10, .d), (11, .d), (12, .d), (13, .d), (14, .d)] rfl ?_
  refine r_d rfl rfl rfl (s_fieldAddr rfl fl_api_Goal_0 rfl rfl rfl rfl) ?_
  refine r_d rfl rfl rfl (s_load rfl rfl (by exact ty_int) rfl) ?_
  refine r_d rfl rfl rfl (s_cmp rfl rfl rfl rfl) ?_
  refine r_d rfl rfl rfl (s_move rfl rfl) ?_
  refine r_sB 6 rfl hr (fun h6_0 hr => ?_) (fun h6_0 hr => ?_)
  ·
   refine r_d rfl rfl rfl (s_fieldAddr rfl fl_api_Goal_1 rfl rfl rfl rfl) ?_
   refine r_d rfl rfl rfl (s_load rfl rfl (by exact ty_string) rfl) ?_
   refine r_d rfl rfl rfl (s_cmpS rfl rfl rfl rfl) ?_
   refine r_d rfl rfl rfl (s_pickT rfl rfl rfl) ?_
   refine r_d rfl rfl rfl (s_move rfl rfl) ?_
   refine r_sB 11 rfl hr (fun h11_1 hr => ?_) (fun h11_1 hr => ?_)
   ·
    refine r_d rfl rfl rfl (s_fieldAddr rfl fl_api_Goal_2 rfl rfl rfl rfl) ?_
    refine r_d rfl rfl rfl (s_load rfl rfl (by exact ty_L_api_Term) rfl) ?_
    refine r_d rfl rfl rfl (m_len (f := encT) g_a0.ts rfl el_L_api_Term rfl (asl rfl)) ?_
    refine r_d rfl rfl rfl (s_cmp rfl rfl rfl rfl) ?_
    refine r_d rfl rfl rfl (s_pickT rfl rfl rfl) ?_
    refine r_d rfl rfl rfl (s_assign rfl rfl) ?_
    refine r_end ?_
    obtain rfl := Option.some.inj hr
    refine g_ret Try.func60 _ (.cons (resTmp rfl (Wk.refl _)) .nil) ?_
    rfl
   ·
    refine r_skip rfl rfl rfl ?_
    refine r_skip rfl rfl rfl ?_
    refine r_skip rfl rfl rfl ?_
    refine r_skip rfl rfl rfl ?_
    refine r_d rfl rfl rfl (s_pickF rfl rfl rfl) ?_
    refine r_d rfl rfl rfl (s_assign rfl rfl) ?_
    refine r_end ?_
    obtain rfl := Option.some.inj hr
    refine g_ret Try.func60 _ (.cons (resTmp rfl (Wk.refl _)) .nil) ?_
    rfl
  ·
   refine r_skip rfl rfl rfl ?_
   refine r_skip rfl rfl rfl ?_
   refine r_skip rfl rfl rfl ?_
   refine r_d rfl rfl rfl (s_pickF rfl rfl rfl) ?_
   refine r_d rfl rfl rfl (s_move rfl rfl) ?_
   refine r_skip rfl rfl rfl ?_
   refine r_skip rfl rfl rfl ?_
   refine r_skip rfl rfl rfl ?_
   refine r_skip rfl rfl rfl ?_
   refine r_d rfl rfl rfl (s_pickF rfl rfl rfl) ?_
   refine r_d rfl rfl rfl (s_assign rfl rfl) ?_
   refine r_end ?_
   obtain rfl := Option.some.inj hr
   refine g_ret Try.func60 _ (.cons (resTmp rfl (Wk.refl _)) .nil) ?_
   rfl

noncomputable def lf_instr_guard (g_a0 : Gl) : Option (Bool) :=
  ((x_rightG g_a0).bind fun r_1 =>
  (bif r_1 then
  (bif (g_a0.op == (1 : Int)) then
  some (true)
  else
  some ((decide (g_a0.op ≥ (5 : Int)))))
  else
  some (false)))

set_option maxHeartbeats 1000000 in
theorem lg_instr_guard (g_a0 : Gl) (res : Bool) (hr : lf_instr_guard g_a0 = some res) : Gives Try.prog 62 [encG g_a0] (.bool res) := by
  unfold lf_instr_guard at hr
  refine spec_env [(0, encG g_a0)] Try.func62 rfl rfl fun K hK => ?_
  refine g_seq ?_
  refine g_run (by kernel_rfl) [(0, .d), (1, .d)] rfl ?_
  refine r_d rfl rfl rfl (s_box rfl rfl rfl) ?_
  refine r_d rfl rfl rfl (s_assign rfl rfl) ?_
  refine r_end ?_
  refine g_seq ?_
  refine g_run (by kernel_rfl) [(0, .d), (1, .d), (2, .d), (3, .d), (4, .d), (5, .d), (6, .d), (7, .d), (8, .d), (9, .d), (10, .d), (11, .d), (12, .d)] rfl ?_
  refine r_d rfl rfl rfl (s_load rfl rfl (by exact ty_api_Goal) (sz_encG _)) ?_
  obtain ⟨r_1, hr_1, hr⟩ := bindS hr
  refine r_d rfl rfl rfl (s_callD rfl cl_term_RightGoal (.cons rfl (Wk.refl _) .nil) (lx_term_RightGoal _ _ hr_1)) ?_
  refine r_d rfl rfl rfl (s_move rfl rfl) ?_
  refine r_sB 5 rfl hr (fun h5_1 hr => ?_) (fun h5_1 hr => ?_)
  ·
   refine r_d rfl rfl rfl (s_fieldAddr rfl fl_api_Goal_0 rfl rfl rfl rfl) ?_
   refine r_d rfl rfl rfl (s_load rfl rfl (by exact ty_int) rfl) ?_
   refine r_d rfl rfl rfl (s_cmp rfl rfl rfl rfl) ?_
   refine r_d rfl rfl rfl (s_move rfl rfl) ?_
   refine r_sB 9 rfl hr (fun h9_2 hr => ?_) (fun h9_2 hr => ?_)
   ·
    refine r_skip rfl rfl rfl ?_
    refine r_skip rfl rfl rfl ?_
    refine r_skip rfl rfl rfl ?_
    refine r_d rfl rfl rfl (s_pickT rfl rfl rfl) ?_
    refine r_d rfl rfl rfl (s_pickT rfl rfl rfl) ?_
    refine r_d rfl rfl rfl (s_assign rfl rfl) ?_
    refine r_end ?_
    obtain rfl := Option.some.inj hr
    refine g_ret Try.func62 _ (.cons (resTmp rfl (Wk.refl _)) .nil) ?_
    rfl
   ·
    refine r_d rfl rfl rfl (s_fieldAddr rfl fl_api_Goal_0 rfl rfl rfl rfl) ?_
    refine r_d rfl rfl rfl (s_load rfl rfl (by exact ty_int) rfl) ?_
    refine r_d rfl rfl rfl (s_cmp rfl rfl rfl rfl) ?_
    refine r_d rfl rfl rfl (s_pickF rfl rfl rfl) ?_
    refine r_d rfl rfl rfl (s_pickT rfl rfl rfl) ?_
    refine r_d rfl rfl rfl (s_assign rfl rfl) ?_
    refine r_end ?_
    obtain rfl := Option.some.inj hr
    refine g_ret Try.func62 _ (.cons (resTmp rfl (Wk.refl _)) .nil) ?_
    rfl
  ·
   refine r_skip rfl rfl rfl ?_
   refine r_skip rfl rfl rfl ?_
   refine r_skip rfl rfl rfl ?_
   refine r_skip rfl rfl rfl ?_
   refine r_skip rfl rfl rfl ?_
   refine r_skip rfl rfl rfl ?_
   refine r_skip rfl rfl rfl ?_
   refine r_skip rfl rfl rfl ?_
   refine r_d rfl rfl rfl (s_pickF rfl rfl rfl) ?_
   refine r_d rfl rfl rfl (s_assign rfl rfl) ?_
   refine r_end ?_
   obtain rfl := Option.some.inj hr
   refine g_ret Try.func62 _ (.cons (resTmp rfl (Wk.refl _)) .nil) ?_
   rfl

noncomputable def lf_instr_body (g_a0 : Gl) : Option (Bool) :=
  ((x_rightG g_a0).bind fun r_1 =>
  (bif r_1 then
  some ((decide (g_a0.op ≤ (4 : Int))))
  else
  some (false)))

set_option maxHeartbeats 1000000 in
theorem lg_instr_body (g_a0 : Gl) (res : Bool) (hr : lf_instr_body g_a0 = some res) : Gives Try.prog 65 [encG g_a0] (.bool res) := by
  unfold lf_instr_body at hr
  refine spec_env [(0, encG g_a0)] Try.func65 rfl rfl fun K hK => ?_
  refine g_seq ?_
  refine g_run (by kernel_rfl) [(0, .d), (1, .d)] rfl ?_
  refine r_d rfl rfl rfl (s_box rfl rfl rfl) ?_
  refine r_d rfl rfl rfl (s_assign rfl rfl) ?_
  refine r_end ?_
  refine g_seq ?_
  refine g_run (by kernel_rfl) [(0, .d), (1, .d), (2, .d), (3, .d), (4, .d), (5, .d), (6, .d), (7, .d)] rfl ?_
  refine r_d rfl rfl rfl (s_load rfl rfl (by exact ty_api_Goal) (sz_encG _)) ?_
  obtain ⟨r_1, hr_1, hr⟩ := bindS hr
  refine r_d rfl rfl rfl (s_callD rfl cl_term_RightGoal (.cons rfl (Wk.refl _) .nil) (lx_term_RightGoal _ _ hr_1)) ?_
  refine r_d rfl rfl rfl (s_move rfl rfl) ?_
  refine r_sB 5 rfl hr (fun h5_1 hr => ?_) (fun h5_1 hr => ?_)
  ·
   refine r_d rfl rfl rfl (s_fieldAddr rfl fl_api_Goal_0 rfl rfl rfl rfl) ?_
   refine r_d rfl rfl rfl (s_load rfl rfl (by exact ty_int) rfl) ?_
   refine r_d rfl rfl rfl (s_cmp rfl rfl rfl rfl) ?_
   refine r_d rfl rfl rfl (s_pickT rfl rfl rfl) ?_
   refine r_d rfl rfl rfl (s_assign rfl rfl) ?_
   refine r_end ?_
   obtain rfl := Option.some.inj hr
   refine g_ret Try.func65 _ (.cons (resTmp rfl (Wk.refl _)) .nil) ?_
   rfl
  ·
   refine r_skip rfl rfl rfl ?_
   refine r_skip rfl rfl rfl ?_
   refine r_skip rfl rfl rfl ?_
   refine r_d rfl rfl rfl (s_pickF rfl rfl rfl) ?_
   refine r_d rfl rfl rfl (s_assign rfl rfl) ?_
   refine r_end ?_
   obtain rfl := Option.some.inj hr
   refine g_ret Try.func65 _ (.cons (resTmp rfl (Wk.refl _)) .nil) ?_
   rfl

noncomputable def lf_constraintref03_GreatGoals_L0 (k : (Int) → Option (Bool)) : List Gl → Int → Option (Bool)
  | [], most_1 =>
  (k most_1)
  | q_4 :: rest, most_1 =>
  (bif (decide (most_1 ≥ (0 : Int))) then
  ((x_weigh q_4.ts (wr ((wr (most_1 - (1 : Int))) - (wr (Int.tdiv (q_4.n.size : Int) 8)))) 64).bind fun r_6 =>
  (lf_constraintref03_GreatGoals_L0 k rest r_6))
  else
  (k most_1))
noncomputable def lf_constraintref03_GreatGoals (l_a0 : (List Gl)) (most_a1 : Int) : Option (Bool) :=
  (lf_constraintref03_GreatGoals_L0 (fun most_3 =>
  some ((decide (most_3 < (0 : Int))))) l_a0 most_a1)

set_option maxHeartbeats 1000000 in
theorem lg_constraintref03_GreatGoals (l_a0 : (List Gl)) (most_a1 : Int) (res : Bool) (hr : lf_constraintref03_GreatGoals l_a0 most_a1 = some res) : Gives Try.prog 21 [.lst (l_a0.map encG), .int .i64 most_a1] (.bool res) := by
  unfold lf_constraintref03_GreatGoals at hr
  refine spec_env [(0, .lst (l_a0.map encG)), (1, .int .i64 most_a1)] Try.func21 rfl rfl fun K hK => ?_
  refine g_seq ?_
  refine g_run (by kernel_rfl) [(0, .d)] rfl ?_
  refine r_d rfl rfl rfl (s_assign rfl rfl) ?_
  refine r_end ?_
  refine g_seq ?_
  refine g_seq ?_
  refine g_run (by kernel_rfl) [(0, .d)] rfl ?_
  refine r_d rfl rfl rfl (s_assign rfl rfl) ?_
  refine r_end ?_
  obtain ⟨kk0, hkk0, hr⟩ := exK (fun k => lf_constraintref03_GreatGoals_L0 k l_a0 most_a1) hr
  refine g_len 0 rfl (asl rfl) fun hla0 => ?_
  simp only [List.length_map] at hla0
  refine g_blockJ (fun env σ => ∃ (most_3 : Int), env = [(1, .int .i64 most_3)] ∧ σ = [] ∧ kk0 most_3 = some res) ?_ (fun HK0 => ?_)
  ·
   rintro _ _ ⟨most_3, rfl, rfl, hr⟩
   rw [hkk0] at hr
   refine g_seq ?_
   refine g_run (by kernel_rfl) [(0, .d), (1, .d), (2, .d)] rfl ?_
   refine r_d rfl rfl rfl (s_move rfl rfl) ?_
   refine r_d rfl rfl rfl (s_cmp rfl rfl rfl rfl) ?_
   refine r_d rfl rfl rfl (s_assign rfl rfl) ?_
   refine r_end ?_
   obtain rfl := Option.some.inj hr
   refine g_ret Try.func21 _ (.cons (resTmp rfl (Wk.refl _)) .nil) ?_
   rfl
  ·
   refine g_sub [(0, .lst (l_a0.map encG)), (1, .int .i64 most_a1), (5, .int .i64 ((0 : Nat) : Int))] (Sub.cons' rfl (Sub.cons' rfl (Sub.cons' rfl (Sub.nil _)))) ?_
   refine g_loop (fun n env σ => ∃ (most_1 : Int) (i_2 : Nat), (n = l_a0.length - i_2) ∧ (env = [(0, .lst (l_a0.map encG)), (1, .int .i64 most_1), (5, .int .i64 (i_2 : Int))]) ∧ (σ = []) ∧ (i_2 ≤ l_a0.length) ∧ (lf_constraintref03_GreatGoals_L0 kk0 (l_a0.drop i_2) most_1 = some res)) _ ⟨most_a1, 0, rfl, rfl, rfl, Nat.zero_le _, hr⟩ ?_
   rintro n _ _ ⟨most_1, i_2, rfl, rfl, rfl, hi0, hr⟩ IH0
   rcases listStep l_a0 i_2 hi0 with ⟨ht0, hd0, he0⟩ | ⟨q_4, ht0, hd0, hq0, hlt0⟩
   ·
    rw [hd0, lf_constraintref03_GreatGoals_L0] at hr
    refine g_seq ?_
    refine g_seq ?_
    refine g_run (by kernel_rfl) [(0, .d), (1, .d), (2, .d), (3, .d), (4, .d), (5, .d), (6, .d), (7, .d)] rfl ?_
    refine r_d rfl rfl rfl (s_move rfl rfl) ?_
    refine r_d rfl rfl rfl (s_move rfl rfl) ?_
    refine r_d rfl rfl rfl (m_len (f := encG) l_a0 rfl el_L_api_Goal rfl (asl rfl)) ?_
    refine r_d rfl rfl rfl (s_cmp rfl rfl rfl rfl) ?_
    refine r_d rfl rfl rfl (s_move rfl rfl) ?_
    refine r_known 10 false rfl ht0 ?_
    refine r_skip rfl rfl rfl ?_
    refine r_skip rfl rfl rfl ?_
    refine r_d rfl rfl rfl (s_pickF rfl rfl rfl) ?_
    refine r_end ?_
    refine g_condF rfl ?_
    refine g_exit rfl ?_
    refine g_sub [(1, .int .i64 most_1)] (Sub.cons' rfl (Sub.nil _)) ?_
    exact HK0 _ _ ⟨most_1, rfl, rfl, hr⟩
   ·
    rw [hd0, lf_constraintref03_GreatGoals_L0] at hr
    refine g_seq ?_
    refine g_seq ?_
    refine g_run (by kernel_rfl) [(0, .d), (1, .d), (2, .d), (3, .d), (4, .d), (5, .d), (6, .d), (7, .d)] rfl ?_
    refine r_d rfl rfl rfl (s_move rfl rfl) ?_
    refine r_d rfl rfl rfl (s_move rfl rfl) ?_
    refine r_d rfl rfl rfl (m_len (f := encG) l_a0 rfl el_L_api_Goal rfl (asl rfl)) ?_
    refine r_d rfl rfl rfl (s_cmp rfl rfl rfl rfl) ?_
    refine r_d rfl rfl rfl (s_move rfl rfl) ?_
    refine r_known 10 true rfl ht0 ?_
    refine r_d rfl rfl rfl (s_move rfl rfl) ?_
    refine r_d rfl rfl rfl (s_cmp rfl rfl rfl rfl) ?_
    refine r_d rfl rfl rfl (s_pickT rfl rfl rfl) ?_
    refine r_end ?_
    refine g_sB 13 rfl hr (fun h13_4 hr => ?_) (fun h13_4 hr => ?_)
    ·
     refine g_condT rfl ?_
     refine g_skip ?_
     refine g_seq ?_
     refine g_block ?_
     refine g_any (by kernel_rfl) (by kernel_rfl) [(0, .d), (1, .d), (2, .d), (3, .d), (4, .d), (5, .d), (6, .d), (7, .d), (8, .d), (9, .d), (10, .d), (11, .d), (12, .d), (13, .d), (14, .d), (15, .d), (16, .d)] (by kernel_rfl) ?_
     refine r_d rfl rfl rfl (s_move rfl rfl) ?_
     refine r_d rfl rfl rfl (s_move rfl rfl) ?_
     refine r_d rfl rfl rfl (m_index (f := encG) l_a0 rfl el_L_api_Goal rfl (asl rfl) rfl hq0 sz_encG rfl) ?_
     refine r_d rfl rfl rfl (s_fieldAddr rfl fl_api_Goal_2 rfl rfl rfl rfl) ?_
     refine r_d rfl rfl rfl (s_load rfl rfl (by exact ty_L_api_Term) rfl) ?_
     refine r_d rfl rfl rfl (s_move rfl rfl) ?_
     refine r_d rfl rfl rfl (s_arW rfl rfl rfl rfl) ?_
     refine r_d rfl rfl rfl (s_move rfl rfl) ?_
     refine r_d rfl rfl rfl (s_move rfl rfl) ?_
     refine r_d rfl rfl rfl (m_index (f := encG) l_a0 rfl el_L_api_Goal rfl (asl rfl) rfl hq0 sz_encG rfl) ?_
     refine r_d rfl rfl rfl (s_fieldAddr rfl fl_api_Goal_1 rfl rfl rfl rfl) ?_
     refine r_d rfl rfl rfl (s_load rfl rfl (by exact ty_string) rfl) ?_
     refine r_d rfl rfl rfl (s_lenS rfl Try.underlying9 rfl) ?_
     refine r_d rfl rfl rfl (s_quoC rfl rfl rfl (by decide)) ?_
     refine r_d rfl rfl rfl (s_arW rfl rfl rfl rfl) ?_
     obtain ⟨r_6, hr_6, hr⟩ := bindS hr
     refine r_d rfl rfl rfl (s_callD rfl cl_constraintref03_weigh (.cons rfl (Wk.refl _) (.cons rfl (Wk.refl _) (.cons rfl (Wk.refl _) .nil))) (lx_constraintref03_weigh _ _ _ _ hr_6)) ?_
     refine r_d rfl rfl rfl (s_assign rfl rfl) ?_
     refine r_end ?_
     refine g_inBlock ?_
     refine g_run (by kernel_rfl) [(0, .d), (1, .d), (2, .d)] rfl ?_
     refine r_d rfl rfl rfl (s_move rfl rfl) ?_
     refine r_d rfl rfl rfl (s_ar (r := ((i_2 + 1 : Nat) : Int)) rfl rfl rfl (by simp [iar]) (by omega)) ?_
     refine r_d rfl rfl rfl (s_assign rfl rfl) ?_
     refine r_end ?_
     refine g_sub [(0, .lst (l_a0.map encG)), (1, .int .i64 r_6), (5, .int .i64 ((i_2 + 1 : Nat) : Int))] (Sub.cons' rfl (Sub.cons' rfl (Sub.cons' rfl (Sub.nil _)))) ?_
     exact IH0 _ _ _ (by omega) ⟨r_6, (i_2 + 1), rfl, rfl, rfl, (by omega), hr⟩
    ·
     refine g_condF rfl ?_
     refine g_exit rfl ?_
     refine g_sub [(1, .int .i64 most_1)] (Sub.cons' rfl (Sub.nil _)) ?_
     exact HK0 _ _ ⟨most_1, rfl, rfl, hr⟩

noncomputable def lf_constraintref03_Great (l_a0 : (List T)) (most_a1 : Int) : Option (Bool) :=
  ((x_weigh l_a0 most_a1 64).bind fun r_1 =>
  some ((decide (r_1 < (0 : Int)))))

set_option maxHeartbeats 1000000 in
theorem lg_constraintref03_Great (l_a0 : (List T)) (most_a1 : Int) (res : Bool) (hr : lf_constraintref03_Great l_a0 most_a1 = some res) : Gives Try.prog 22 [.lst (l_a0.map encT), .int .i64 most_a1] (.bool res) := by
  unfold lf_constraintref03_Great at hr
  refine spec_env [(0, .lst (l_a0.map encT)), (1, .int .i64 most_a1)] Try.func22 rfl rfl fun K hK => ?_
  refine g_seq ?_
  refine g_run (by kernel_rfl) [(0, .d)] rfl ?_
  refine r_d rfl rfl rfl (s_assign rfl rfl) ?_
  refine r_end ?_
  refine g_seq ?_
  refine g_run (by kernel_rfl) [(0, .d), (1, .d), (2, .d), (3, .d), (4, .d)] rfl ?_
  refine r_d rfl rfl rfl (s_move rfl rfl) ?_
  refine r_d rfl rfl rfl (s_move rfl rfl) ?_
  obtain ⟨r_1, hr_1, hr⟩ := bindS hr
  refine r_d rfl rfl rfl (s_callD rfl cl_constraintref03_weigh (.cons rfl (Wk.refl _) (.cons rfl (Wk.refl _) (.cons rfl (Wk.refl _) .nil))) (lx_constraintref03_weigh _ _ _ _ hr_1)) ?_
  refine r_d rfl rfl rfl (s_cmp rfl rfl rfl rfl) ?_
  refine r_d rfl rfl rfl (s_assign rfl rfl) ?_
  refine r_end ?_
  obtain rfl := Option.some.inj hr
  refine g_ret Try.func22 _ (.cons (resTmp rfl (Wk.refl _)) .nil) ?_
  rfl

noncomputable def lf_constraintref32_Great_L0 (k : (Int) → Option (Bool)) : List S_api_Instr → Int → Option (Bool)
  | [], most_2 =>
  (k most_2)
  | q_5 :: rest, most_2 =>
  (bif (decide (most_2 ≥ (0 : Int))) then
  ((lf_constraintref03_GreatGoals [q_5.f3_Goal] most_2).bind fun r_7 =>
  (bif r_7 then
  some (true)
  else
  ((lf_constraintref03_Great q_5.f4_Terms most_2).bind fun r_9 =>
  (bif r_9 then
  some (true)
  else
  (lf_constraintref32_Great_L0 k rest (wr ((wr (most_2 - (q_5.f3_Goal.ts.length : Int))) - (q_5.f4_Terms.length : Int))))))))
  else
  (k most_2))
noncomputable def lf_constraintref32_Great (code_a0 : (List S_api_Instr)) (most_a1 : Int) : Option (Bool) :=
  (bif (decide ((code_a0.length : Int) > (220 : Int))) then
  some (true)
  else
  (lf_constraintref32_Great_L0 (fun most_4 =>
  some ((decide (most_4 < (0 : Int))))) code_a0 most_a1))

set_option maxHeartbeats 1000000 in
theorem lg_constraintref32_Great (code_a0 : (List S_api_Instr)) (most_a1 : Int) (res : Bool) (hr : lf_constraintref32_Great code_a0 most_a1 = some res) : Gives Try.prog 8 [.lst (code_a0.map enc_S_api_Instr), .int .i64 most_a1] (.bool res) := by
  unfold lf_constraintref32_Great at hr
  refine spec_env [(0, .lst (code_a0.map enc_S_api_Instr)), (1, .int .i64 most_a1)] Try.func8 rfl rfl fun K hK => ?_
  refine g_seq ?_
  refine g_run (by kernel_rfl) [(0, .d)] rfl ?_
  refine r_d rfl rfl rfl (s_assign rfl rfl) ?_
  refine r_end ?_
  refine g_seq ?_
  refine g_seq ?_
  refine g_run (by kernel_rfl) [(0, .d), (1, .d), (2, .d)] rfl ?_
  refine r_d rfl rfl rfl (s_move rfl rfl) ?_
  refine r_d rfl rfl rfl (m_len (f := enc_S_api_Instr) code_a0 rfl el_L_api_Instr rfl (asl rfl)) ?_
  refine r_d rfl rfl rfl (s_cmp rfl rfl rfl rfl) ?_
  refine r_end ?_
  refine g_sB 8 rfl hr (fun h8_0 hr => ?_) (fun h8_0 hr => ?_)
  ·
   refine g_condT rfl ?_
   refine g_seq ?_
   refine g_run (by kernel_rfl) [(0, .d)] rfl ?_
   refine r_d rfl rfl rfl (s_assign rfl rfl) ?_
   refine r_end ?_
   obtain rfl := Option.some.inj hr
   refine g_ret Try.func8 _ (.cons (resTmp rfl (Wk.refl _)) .nil) ?_
   rfl
  ·
   refine g_condF rfl ?_
   refine g_skip ?_
   refine g_seq ?_
   refine g_seq ?_
   refine g_run (by kernel_rfl) [(0, .d)] rfl ?_
   refine r_d rfl rfl rfl (s_assign rfl rfl) ?_
   refine r_end ?_
   obtain ⟨kk0, hkk0, hr⟩ := exK (fun k => lf_constraintref32_Great_L0 k code_a0 most_a1) hr
   refine g_len 0 rfl (asl rfl) fun hla0 => ?_
   simp only [List.length_map] at hla0
   refine g_blockJ (fun env σ => ∃ (most_4 : Int), env = [(1, .int .i64 most_4)] ∧ σ = [] ∧ kk0 most_4 = some res) ?_ (fun HK0 => ?_)
   ·
    rintro _ _ ⟨most_4, rfl, rfl, hr⟩
    rw [hkk0] at hr
    refine g_seq ?_
    refine g_run (by kernel_rfl) [(0, .d), (1, .d), (2, .d)] rfl ?_
    refine r_d rfl rfl rfl (s_move rfl rfl) ?_
    refine r_d rfl rfl rfl (s_cmp rfl rfl rfl rfl) ?_
    refine r_d rfl rfl rfl (s_assign rfl rfl) ?_
    refine r_end ?_
    obtain rfl := Option.some.inj hr
    refine g_ret Try.func8 _ (.cons (resTmp rfl (Wk.refl _)) .nil) ?_
    rfl
   ·
    refine g_sub [(0, .lst (code_a0.map enc_S_api_Instr)), (1, .int .i64 most_a1), (5, .int .i64 ((0 : Nat) : Int))] (Sub.cons' rfl (Sub.cons' rfl (Sub.cons' rfl (Sub.nil _)))) ?_
    refine g_loop (fun n env σ => ∃ (most_2 : Int) (i_3 : Nat), (n = code_a0.length - i_3) ∧ (env = [(0, .lst (code_a0.map enc_S_api_Instr)), (1, .int .i64 most_2), (5, .int .i64 (i_3 : Int))]) ∧ (σ = []) ∧ (i_3 ≤ code_a0.length) ∧ (lf_constraintref32_Great_L0 kk0 (code_a0.drop i_3) most_2 = some res)) _ ⟨most_a1, 0, rfl, rfl, rfl, Nat.zero_le _, hr⟩ ?_
    rintro n _ _ ⟨most_2, i_3, rfl, rfl, rfl, hi0, hr⟩ IH0
    rcases listStep code_a0 i_3 hi0 with ⟨ht0, hd0, he0⟩ | ⟨q_5, ht0, hd0, hq0, hlt0⟩
    ·
     rw [hd0, lf_constraintref32_Great_L0] at hr
     refine g_seq ?_
     refine g_seq ?_
     refine g_run (by kernel_rfl) [(0, .d), (1, .d), (2, .d), (3, .d), (4, .d), (5, .d), (6, .d), (7, .d)] rfl ?_
     refine r_d rfl rfl rfl (s_move rfl rfl) ?_
     refine r_d rfl rfl rfl (s_move rfl rfl) ?_
     refine r_d rfl rfl rfl (m_len (f := enc_S_api_Instr) code_a0 rfl el_L_api_Instr rfl (asl rfl)) ?_
     refine r_d rfl rfl rfl (s_cmp rfl rfl rfl rfl) ?_
     refine r_d rfl rfl rfl (s_move rfl rfl) ?_
     refine r_known 13 false rfl ht0 ?_
     refine r_skip rfl rfl rfl ?_
     refine r_skip rfl rfl rfl ?_
     refine r_d rfl rfl rfl (s_pickF rfl rfl rfl) ?_
     refine r_end ?_
     refine g_condF rfl ?_
     refine g_exit rfl ?_
     refine g_sub [(1, .int .i64 most_2)] (Sub.cons' rfl (Sub.nil _)) ?_
     exact HK0 _ _ ⟨most_2, rfl, rfl, hr⟩
    ·
     rw [hd0, lf_constraintref32_Great_L0] at hr
     refine g_seq ?_
     refine g_seq ?_
     refine g_run (by kernel_rfl) [(0, .d), (1, .d), (2, .d), (3, .d), (4, .d), (5, .d), (6, .d), (7, .d)] rfl ?_
     refine r_d rfl rfl rfl (s_move rfl rfl) ?_
     refine r_d rfl rfl rfl (s_move rfl rfl) ?_
     refine r_d rfl rfl rfl (m_len (f := enc_S_api_Instr) code_a0 rfl el_L_api_Instr rfl (asl rfl)) ?_
     refine r_d rfl rfl rfl (s_cmp rfl rfl rfl rfl) ?_
     refine r_d rfl rfl rfl (s_move rfl rfl) ?_
     refine r_known 13 true rfl ht0 ?_
     refine r_d rfl rfl rfl (s_move rfl rfl) ?_
     refine r_d rfl rfl rfl (s_cmp rfl rfl rfl rfl) ?_
     refine r_d rfl rfl rfl (s_pickT rfl rfl rfl) ?_
     refine r_end ?_
     refine g_sB 16 rfl hr (fun h16_5 hr => ?_) (fun h16_5 hr => ?_)
     ·
      refine g_condT rfl ?_
      refine g_skip ?_
      refine g_seq ?_
      refine g_block ?_
      refine g_seq ?_
      refine g_seq ?_
      refine g_run (by kernel_rfl) [(0, .d), (1, .d), (2, .d), (3, .d), (4, .d), (5, .d), (6, .d), (7, .d), (8, .d), (9, .d), (10, .d), (11, .d), (12, .d), (13, .d), (14, .d), (15, .d), (16, .d)] rfl ?_
      refine r_d rfl rfl rfl (s_move rfl rfl) ?_
      refine r_d rfl rfl rfl (s_move rfl rfl) ?_
      refine r_d rfl rfl rfl (m_index (f := enc_S_api_Instr) code_a0 rfl el_L_api_Instr rfl (asl rfl) rfl hq0 sz_S_api_Instr rfl) ?_
      refine r_d rfl rfl rfl (s_fieldAddr rfl fl_api_Instr_3 rfl rfl rfl rfl) ?_
      refine r_d rfl rfl rfl (s_load rfl rfl (by exact ty_api_Goal) (sz_encG _)) ?_
      refine r_d rfl rfl rfl (m_lit (f := encG) [.tmp 23] [q_5.f3_Goal] rfl el_L_api_Goal rfl rfl (by decide) (by decide) (.cons rfl (Wk.refl _) .nil) sz_encG (fun _ => rfl)) ?_
      refine r_d rfl rfl rfl (s_move rfl rfl) ?_
      obtain ⟨r_7, hr_7, hr⟩ := bindS hr
      refine r_d rfl rfl rfl (by exact s_callD rfl cl_constraintref03_GreatGoals (.cons rfl (Wk.full _) (.cons rfl (Wk.refl _) .nil)) (lg_constraintref03_GreatGoals _ _ _ hr_7)) ?_
      refine r_d rfl rfl rfl (s_move rfl rfl) ?_
      refine r_sB 27 rfl hr (fun h27_7 hr => ?_) (fun h27_7 hr => ?_)
      ·
       refine r_skip rfl rfl rfl ?_
       refine r_skip rfl rfl rfl ?_
       refine r_skip rfl rfl rfl ?_
       refine r_skip rfl rfl rfl ?_
       refine r_skip rfl rfl rfl ?_
       refine r_skip rfl rfl rfl ?_
       refine r_skip rfl rfl rfl ?_
       refine r_d rfl rfl rfl (s_pickT rfl rfl rfl) ?_
       refine r_end ?_
       refine g_condT rfl ?_
       refine g_seq ?_
       refine g_run (by kernel_rfl) [(0, .d)] rfl ?_
       refine r_d rfl rfl rfl (s_assign rfl rfl) ?_
       refine r_end ?_
       obtain rfl := Option.some.inj hr
       refine g_ret Try.func8 _ (.cons (resTmp rfl (Wk.refl _)) .nil) ?_
       rfl
      ·
       refine r_d rfl rfl rfl (s_move rfl rfl) ?_
       refine r_d rfl rfl rfl (s_move rfl rfl) ?_
       refine r_d rfl rfl rfl (m_index (f := enc_S_api_Instr) code_a0 rfl el_L_api_Instr rfl (asl rfl) rfl hq0 sz_S_api_Instr rfl) ?_
       refine r_d rfl rfl rfl (s_fieldAddr rfl fl_api_Instr_4 rfl rfl (by simp [szs, sz, sz_encG]) rfl) ?_
       refine r_d rfl rfl rfl (s_load rfl rfl (by exact ty_L_api_Term) rfl) ?_
       refine r_d rfl rfl rfl (s_move rfl rfl) ?_
       obtain ⟨r_9, hr_9, hr⟩ := bindS hr
       refine r_d rfl rfl rfl (s_callD rfl cl_constraintref03_Great (.cons rfl (Wk.refl _) (.cons rfl (Wk.refl _) .nil)) (lg_constraintref03_Great _ _ _ hr_9)) ?_
       refine r_d rfl rfl rfl (s_pickF rfl rfl rfl) ?_
       refine r_end ?_
       refine g_sB 35 rfl hr (fun h35_9 hr => ?_) (fun h35_9 hr => ?_)
       ·
        refine g_condT rfl ?_
        refine g_seq ?_
        refine g_run (by kernel_rfl) [(0, .d)] rfl ?_
        refine r_d rfl rfl rfl (s_assign rfl rfl) ?_
        refine r_end ?_
        obtain rfl := Option.some.inj hr
        refine g_ret Try.func8 _ (.cons (resTmp rfl (Wk.refl _)) .nil) ?_
        rfl
       ·
        refine g_condF rfl ?_
        refine g_skip ?_
        refine g_any (by kernel_rfl) (by kernel_rfl) [(0, .d), (1, .d), (2, .d), (3, .d), (4, .d), (5, .d), (6, .d), (7, .d), (8, .d), (9, .d), (10, .d), (11, .d), (12, .d), (13, .d), (14, .d), (15, .d), (16, .d)] (by kernel_rfl) ?_
        refine r_d rfl rfl rfl (s_move rfl rfl) ?_
        refine r_d rfl rfl rfl (s_move rfl rfl) ?_
        refine r_d rfl rfl rfl (s_move rfl rfl) ?_
        refine r_d rfl rfl rfl (m_index (f := enc_S_api_Instr) code_a0 rfl el_L_api_Instr rfl (asl rfl) rfl hq0 sz_S_api_Instr rfl) ?_
        refine r_d rfl rfl rfl (s_fieldAddr rfl fl_api_Instr_3 rfl rfl rfl rfl) ?_
        refine r_d rfl rfl rfl (s_fieldAddr rfl fl_api_Goal_2 rfl rfl rfl rfl) ?_
        refine r_d rfl rfl rfl (s_load rfl rfl (by exact ty_L_api_Term) rfl) ?_
        refine r_d rfl rfl rfl (m_len (f := encT) q_5.f3_Goal.ts rfl el_L_api_Term rfl (asl rfl)) ?_
        refine r_d rfl rfl rfl (s_arW rfl rfl rfl rfl) ?_
        refine r_d rfl rfl rfl (s_move rfl rfl) ?_
        refine r_d rfl rfl rfl (s_move rfl rfl) ?_
        refine r_d rfl rfl rfl (m_index (f := enc_S_api_Instr) code_a0 rfl el_L_api_Instr rfl (asl rfl) rfl hq0 sz_S_api_Instr rfl) ?_
        refine r_d rfl rfl rfl (s_fieldAddr rfl fl_api_Instr_4 rfl rfl (by simp [szs, sz, sz_encG]) rfl) ?_
        refine r_d rfl rfl rfl (s_load rfl rfl (by exact ty_L_api_Term) rfl) ?_
        refine r_d rfl rfl rfl (m_len (f := encT) q_5.f4_Terms rfl el_L_api_Term rfl (asl rfl)) ?_
        refine r_d rfl rfl rfl (s_arW rfl rfl rfl rfl) ?_
        refine r_d rfl rfl rfl (s_assign rfl rfl) ?_
        refine r_end ?_
        refine g_inBlock ?_
        refine g_run (by kernel_rfl) [(0, .d), (1, .d), (2, .d)] rfl ?_
        refine r_d rfl rfl rfl (s_move rfl rfl) ?_
        refine r_d rfl rfl rfl (s_ar (r := ((i_3 + 1 : Nat) : Int)) rfl rfl rfl (by simp [iar]) (by omega)) ?_
        refine r_d rfl rfl rfl (s_assign rfl rfl) ?_
        refine r_end ?_
        refine g_sub [(0, .lst (code_a0.map enc_S_api_Instr)), (1, .int .i64 (wr ((wr (most_2 - (q_5.f3_Goal.ts.length : Int))) - (q_5.f4_Terms.length : Int)))), (5, .int .i64 ((i_3 + 1 : Nat) : Int))] (Sub.cons' rfl (Sub.cons' rfl (Sub.cons' rfl (Sub.nil _)))) ?_
        exact IH0 _ _ _ (by omega) ⟨(wr ((wr (most_2 - (q_5.f3_Goal.ts.length : Int))) - (q_5.f4_Terms.length : Int))), (i_3 + 1), rfl, rfl, rfl, (by omega), hr⟩
     ·
      refine g_condF rfl ?_
      refine g_exit rfl ?_
      refine g_sub [(1, .int .i64 most_2)] (Sub.cons' rfl (Sub.nil _)) ?_
      exact HK0 _ _ ⟨most_2, rfl, rfl, hr⟩

/-- What an operation asks of its fields: functions of the program, with what they answer. -/
structure Sh where
  fa : FuncId
  fb : FuncId
  fg : FuncId
  least : Int
  most : Int
  pa : Int → Option Bool
  pb : Int → Option Bool
  pg : Gl → Option Bool
/-- Their contracts. -/
structure ShOk (s : Sh) : Prop where
  ca : callee Try.prog s.fa
  cb : callee Try.prog s.fb
  cg : callee Try.prog s.fg
  ga : ∀ n r, s.pa n = some r → Gives Try.prog s.fa [.int .i64 n] (.bool r)
  gb : ∀ n r, s.pb n = some r → Gives Try.prog s.fb [.int .i64 n] (.bool r)
  gg : ∀ n r, s.pg n = some r → Gives Try.prog s.fg [encG n] (.bool r)
/-- .. as a value; b: there is such an operation. -/
def sD (s : Sh) (b : Bool) : D := cond b (.agg [.clo (.func s.fa) [] [], .clo (.func s.fb) [] [], .int .i64 s.least, .int .i64 s.most, .clo (.func s.fg) [] []]) (.agg [.nilf, .nilf, .int .i64 0, .int .i64 0, .nilf])
theorem sD_sz (s : Sh) (b : Bool) : sz (sD s b) = 5 := by cases b <;> rfl
theorem sD_plain (s : Sh) (b : Bool) : (sD s b).plain = true := by cases b <;> rfl
noncomputable def lf_instr_of (op_a0 : Int) : Option (Sh × Bool) :=
  (bif (op_a0 == (1 : Int)) then
  some ((⟨49, 61, 60, 1, 1, lf_instr_register, lf_instr_position, lf_instr_none⟩ : Sh), true)
  else
  (bif (op_a0 == (2 : Int)) then
  some ((⟨59, 59, 62, 0, 0, lf_instr_zero, lf_instr_zero, lf_instr_guard⟩ : Sh), true)
  else
  (bif (op_a0 == (3 : Int)) then
  some ((⟨49, 63, 60, 0, 6, lf_instr_register, lf_instr_count, lf_instr_none⟩ : Sh), true)
  else
  (bif (op_a0 == (4 : Int)) then
  some ((⟨49, 49, 60, 0, 0, lf_instr_register, lf_instr_register, lf_instr_none⟩ : Sh), true)
  else
  (bif (op_a0 == (5 : Int)) then
  some ((⟨48, 64, 60, 0, 0, lf_instr_rule, lf_instr_heads, lf_instr_none⟩ : Sh), true)
  else
  (bif (op_a0 == (8 : Int)) then
  some ((⟨48, 64, 60, 0, 0, lf_instr_rule, lf_instr_heads, lf_instr_none⟩ : Sh), true)
  else
  (bif (op_a0 == (6 : Int)) then
  some ((⟨49, 59, 60, 0, 0, lf_instr_register, lf_instr_zero, lf_instr_none⟩ : Sh), true)
  else
  (bif (op_a0 == (7 : Int)) then
  some ((⟨59, 59, 60, 0, 0, lf_instr_zero, lf_instr_zero, lf_instr_none⟩ : Sh), true)
  else
  (bif (op_a0 == (9 : Int)) then
  some ((⟨59, 59, 65, 0, 0, lf_instr_zero, lf_instr_zero, lf_instr_body⟩ : Sh), true)
  else
  (bif (op_a0 == (10 : Int)) then
  some ((⟨48, 66, 60, 0, 0, lf_instr_rule, lf_instr_vars, lf_instr_none⟩ : Sh), true)
  else
  some ((⟨59, 59, 60, 0, 0, lf_instr_zero, lf_instr_zero, lf_instr_none⟩ : Sh), false)))))))))))

theorem ofOk (op : Int) (res : Sh × Bool) (hr : lf_instr_of op = some res) : ShOk res.1 := by
  unfold lf_instr_of at hr
  cases h1 : op == (1 : Int) <;> rw [h1] at hr <;> simp only [cond_true, cond_false] at hr
  rotate_left
  · obtain rfl := Option.some.inj hr
    exact ⟨cl_instr_register, cl_instr_position, cl_instr_none, lg_instr_register, lg_instr_position, lg_instr_none⟩
  cases h2 : op == (2 : Int) <;> rw [h2] at hr <;> simp only [cond_true, cond_false] at hr
  rotate_left
  · obtain rfl := Option.some.inj hr
    exact ⟨cl_instr_zero, cl_instr_zero, cl_instr_guard, lg_instr_zero, lg_instr_zero, lg_instr_guard⟩
  cases h3 : op == (3 : Int) <;> rw [h3] at hr <;> simp only [cond_true, cond_false] at hr
  rotate_left
  · obtain rfl := Option.some.inj hr
    exact ⟨cl_instr_register, cl_instr_count, cl_instr_none, lg_instr_register, lg_instr_count, lg_instr_none⟩
  cases h4 : op == (4 : Int) <;> rw [h4] at hr <;> simp only [cond_true, cond_false] at hr
  rotate_left
  · obtain rfl := Option.some.inj hr
    exact ⟨cl_instr_register, cl_instr_register, cl_instr_none, lg_instr_register, lg_instr_register, lg_instr_none⟩
  cases h5 : op == (5 : Int) <;> rw [h5] at hr <;> simp only [cond_true, cond_false] at hr
  rotate_left
  · obtain rfl := Option.some.inj hr
    exact ⟨cl_instr_rule, cl_instr_heads, cl_instr_none, lg_instr_rule, lg_instr_heads, lg_instr_none⟩
  cases h8 : op == (8 : Int) <;> rw [h8] at hr <;> simp only [cond_true, cond_false] at hr
  rotate_left
  · obtain rfl := Option.some.inj hr
    exact ⟨cl_instr_rule, cl_instr_heads, cl_instr_none, lg_instr_rule, lg_instr_heads, lg_instr_none⟩
  cases h6 : op == (6 : Int) <;> rw [h6] at hr <;> simp only [cond_true, cond_false] at hr
  rotate_left
  · obtain rfl := Option.some.inj hr
    exact ⟨cl_instr_register, cl_instr_zero, cl_instr_none, lg_instr_register, lg_instr_zero, lg_instr_none⟩
  cases h7 : op == (7 : Int) <;> rw [h7] at hr <;> simp only [cond_true, cond_false] at hr
  rotate_left
  · obtain rfl := Option.some.inj hr
    exact ⟨cl_instr_zero, cl_instr_zero, cl_instr_none, lg_instr_zero, lg_instr_zero, lg_instr_none⟩
  cases h9 : op == (9 : Int) <;> rw [h9] at hr <;> simp only [cond_true, cond_false] at hr
  rotate_left
  · obtain rfl := Option.some.inj hr
    exact ⟨cl_instr_zero, cl_instr_zero, cl_instr_body, lg_instr_zero, lg_instr_zero, lg_instr_body⟩
  cases h10 : op == (10 : Int) <;> rw [h10] at hr <;> simp only [cond_true, cond_false] at hr
  rotate_left
  · obtain rfl := Option.some.inj hr
    exact ⟨cl_instr_rule, cl_instr_vars, cl_instr_none, lg_instr_rule, lg_instr_vars, lg_instr_none⟩
  obtain rfl := Option.some.inj hr
  exact ⟨cl_instr_zero, cl_instr_zero, cl_instr_none, lg_instr_zero, lg_instr_zero, lg_instr_none⟩


set_option maxHeartbeats 1000000 in
theorem lg_instr_of (op_a0 : Int) (res : Sh × Bool) (hr : lf_instr_of op_a0 = some res) : Gives Try.prog 23 [.int .i64 op_a0] (.tup [sD res.1 res.2, .bool res.2]) := by
  unfold lf_instr_of at hr
  refine spec_env [(0, .int .i64 op_a0)] Try.func23 rfl rfl fun K hK => ?_
  refine g_seq ?_
  refine g_run (by kernel_rfl) [(0, .w), (1, .d)] rfl ?_
  refine r_w rfl rfl rfl (s_alloc rfl zv_instr_shape) ?_
  rintro _ _ ⟨b2_0, rfl, rfl⟩
  refine r_d rfl rfl rfl (s_assign rfl rfl) ?_
  refine r_end ?_
  refine g_seq ?_
  refine g_run (by kernel_rfl) [(0, .d), (1, .w)] rfl ?_
  refine r_d rfl rfl rfl (s_build rfl bt_instr_shape (.cons rfl (Wk.refl _) (.cons rfl (Wk.refl _) (.cons rfl (Wk.refl _) .nil))) (.cons rfl rfl rfl (.cons rfl rfl rfl (.cons rfl rfl rfl (.nil _))))) ?_
  refine r_w01 rfl rfl rfl (t_store0 _ rfl rfl rfl (Wk.refl _) (pf0 _) (by exact ty_instr_shape) rfl rfl rfl) ?_
  refine r_end ?_
  refine g_seq ?_
  refine g_seq ?_
  refine g_run (by kernel_rfl) [(0, .d)] rfl ?_
  refine r_d rfl rfl rfl (s_move rfl rfl) ?_
  refine r_end ?_
  refine g_block ?_
  refine g_seq ?_
  refine g_run (by kernel_rfl) [(0, .d), (1, .d)] rfl ?_
  refine r_d rfl rfl rfl (s_cmp rfl rfl rfl rfl) ?_
  refine r_d rfl rfl rfl (s_assign rfl rfl) ?_
  refine r_end ?_
  refine g_sB 7 rfl hr (fun h7_1 hr => ?_) (fun h7_1 hr => ?_)
  ·
   refine g_condT rfl ?_
   refine g_run (by kernel_rfl) [(0, .d), (1, .w), (2, .d), (3, .w), (4, .d), (5, .w), (6, .d), (7, .w)] rfl ?_
   refine r_d rfl rfl rfl (s_fieldRef rfl fl_instr_shape_0 rfl) ?_
   refine r_w01 rfl rfl rfl (t_store _ rfl rfl rfl (Wk.refl _) (pf0 _) rfl rfl (by exact ty_func_int__bool) rfl rfl rfl) ?_
   refine r_d rfl rfl rfl (s_fieldRef rfl fl_instr_shape_1 rfl) ?_
   refine r_w01 rfl rfl rfl (t_store _ rfl rfl rfl (Wk.refl _) (pf0 _) rfl rfl (by exact ty_func_int__bool) rfl rfl rfl) ?_
   refine r_d rfl rfl rfl (s_fieldRef rfl fl_instr_shape_2 rfl) ?_
   refine r_w01 rfl rfl rfl (t_store _ rfl rfl rfl (Wk.refl _) (pf0 _) rfl rfl (by exact ty_int) rfl rfl rfl) ?_
   refine r_d rfl rfl rfl (s_fieldRef rfl fl_instr_shape_3 rfl) ?_
   refine r_w01 rfl rfl rfl (t_store _ rfl rfl rfl (Wk.refl _) (pf0 _) rfl rfl (by exact ty_int) rfl rfl rfl) ?_
   refine r_end ?_
   refine g_inBlock ?_
   refine g_seq ?_
   refine g_run (by kernel_rfl) [(0, .r), (1, .w), (2, .d)] rfl ?_
   refine r_r rfl rfl rfl (t_loadRef rfl rfl (.head _) rfl rfl (by exact ty_instr_shape) rfl) ?_
   refine r_w01 rfl rfl rfl (t_store0 _ rfl rfl rfl (Wk.refl _) (pf0 _) (by exact ty_instr_shape) rfl rfl rfl) ?_
   refine r_d rfl rfl rfl (s_assign rfl rfl) ?_
   refine r_end ?_
   obtain rfl := Option.some.inj hr
   refine g_ret Try.func23 _ (.cons (resRef rfl (.head _) (by exact ty_instr_shape) rfl (Wk.refl _)) (.cons (resTmp rfl (Wk.refl _)) .nil)) ?_
   rfl
  ·
   refine g_condF rfl ?_
   refine g_seq ?_
   refine g_run (by kernel_rfl) [(0, .d), (1, .d)] rfl ?_
   refine r_d rfl rfl rfl (s_cmp rfl rfl rfl rfl) ?_
   refine r_d rfl rfl rfl (s_assign rfl rfl) ?_
   refine r_end ?_
   refine g_sB 13 rfl hr (fun h13_2 hr => ?_) (fun h13_2 hr => ?_)
   ·
    refine g_condT rfl ?_
    refine g_run (by kernel_rfl) [(0, .d), (1, .w)] rfl ?_
    refine r_d rfl rfl rfl (s_fieldRef rfl fl_instr_shape_4 rfl) ?_
    refine r_w01 rfl rfl rfl (t_store _ rfl rfl rfl (Wk.refl _) (pf0 _) rfl rfl (by exact ty_func_api_Goal__bool) rfl rfl rfl) ?_
    refine r_end ?_
    refine g_inBlock ?_
    refine g_seq ?_
    refine g_run (by kernel_rfl) [(0, .r), (1, .w), (2, .d)] rfl ?_
    refine r_r rfl rfl rfl (t_loadRef rfl rfl (.head _) rfl rfl (by exact ty_instr_shape) rfl) ?_
    refine r_w01 rfl rfl rfl (t_store0 _ rfl rfl rfl (Wk.refl _) (pf0 _) (by exact ty_instr_shape) rfl rfl rfl) ?_
    refine r_d rfl rfl rfl (s_assign rfl rfl) ?_
    refine r_end ?_
    obtain rfl := Option.some.inj hr
    refine g_ret Try.func23 _ (.cons (resRef rfl (.head _) (by exact ty_instr_shape) rfl (Wk.refl _)) (.cons (resTmp rfl (Wk.refl _)) .nil)) ?_
    rfl
   ·
    refine g_condF rfl ?_
    refine g_seq ?_
    refine g_run (by kernel_rfl) [(0, .d), (1, .d)] rfl ?_
    refine r_d rfl rfl rfl (s_cmp rfl rfl rfl rfl) ?_
    refine r_d rfl rfl rfl (s_assign rfl rfl) ?_
    refine r_end ?_
    refine g_sB 16 rfl hr (fun h16_3 hr => ?_) (fun h16_3 hr => ?_)
    ·
     refine g_condT rfl ?_
     refine g_run (by kernel_rfl) [(0, .d), (1, .w), (2, .d), (3, .w), (4, .d), (5, .w)] rfl ?_
     refine r_d rfl rfl rfl (s_fieldRef rfl fl_instr_shape_0 rfl) ?_
     refine r_w01 rfl rfl rfl (t_store _ rfl rfl rfl (Wk.refl _) (pf0 _) rfl rfl (by exact ty_func_int__bool) rfl rfl rfl) ?_
     refine r_d rfl rfl rfl (s_fieldRef rfl fl_instr_shape_1 rfl) ?_
     refine r_w01 rfl rfl rfl (t_store _ rfl rfl rfl (Wk.refl _) (pf0 _) rfl rfl (by exact ty_func_int__bool) rfl rfl rfl) ?_
     refine r_d rfl rfl rfl (s_fieldRef rfl fl_instr_shape_3 rfl) ?_
     refine r_w01 rfl rfl rfl (t_store _ rfl rfl rfl (Wk.refl _) (pf0 _) rfl rfl (by exact ty_int) rfl rfl rfl) ?_
     refine r_end ?_
     refine g_inBlock ?_
     refine g_seq ?_
     refine g_run (by kernel_rfl) [(0, .r), (1, .w), (2, .d)] rfl ?_
     refine r_r rfl rfl rfl (t_loadRef rfl rfl (.head _) rfl rfl (by exact ty_instr_shape) rfl) ?_
     refine r_w01 rfl rfl rfl (t_store0 _ rfl rfl rfl (Wk.refl _) (pf0 _) (by exact ty_instr_shape) rfl rfl rfl) ?_
     refine r_d rfl rfl rfl (s_assign rfl rfl) ?_
     refine r_end ?_
     obtain rfl := Option.some.inj hr
     refine g_ret Try.func23 _ (.cons (resRef rfl (.head _) (by exact ty_instr_shape) rfl (Wk.refl _)) (.cons (resTmp rfl (Wk.refl _)) .nil)) ?_
     rfl
    ·
     refine g_condF rfl ?_
     refine g_seq ?_
     refine g_run (by kernel_rfl) [(0, .d), (1, .d)] rfl ?_
     refine r_d rfl rfl rfl (s_cmp rfl rfl rfl rfl) ?_
     refine r_d rfl rfl rfl (s_assign rfl rfl) ?_
     refine r_end ?_
     refine g_sB 21 rfl hr (fun h21_4 hr => ?_) (fun h21_4 hr => ?_)
     ·
      refine g_condT rfl ?_
      refine g_run (by kernel_rfl) [(0, .d), (1, .w), (2, .d), (3, .w)] rfl ?_
      refine r_d rfl rfl rfl (s_fieldRef rfl fl_instr_shape_0 rfl) ?_
      refine r_w01 rfl rfl rfl (t_store _ rfl rfl rfl (Wk.refl _) (pf0 _) rfl rfl (by exact ty_func_int__bool) rfl rfl rfl) ?_
      refine r_d rfl rfl rfl (s_fieldRef rfl fl_instr_shape_1 rfl) ?_
      refine r_w01 rfl rfl rfl (t_store _ rfl rfl rfl (Wk.refl _) (pf0 _) rfl rfl (by exact ty_func_int__bool) rfl rfl rfl) ?_
      refine r_end ?_
      refine g_inBlock ?_
      refine g_seq ?_
      refine g_run (by kernel_rfl) [(0, .r), (1, .w), (2, .d)] rfl ?_
      refine r_r rfl rfl rfl (t_loadRef rfl rfl (.head _) rfl rfl (by exact ty_instr_shape) rfl) ?_
      refine r_w01 rfl rfl rfl (t_store0 _ rfl rfl rfl (Wk.refl _) (pf0 _) (by exact ty_instr_shape) rfl rfl rfl) ?_
      refine r_d rfl rfl rfl (s_assign rfl rfl) ?_
      refine r_end ?_
      obtain rfl := Option.some.inj hr
      refine g_ret Try.func23 _ (.cons (resRef rfl (.head _) (by exact ty_instr_shape) rfl (Wk.refl _)) (.cons (resTmp rfl (Wk.refl _)) .nil)) ?_
      rfl
     ·
      refine g_condF rfl ?_
      refine g_seq ?_
      refine g_seq ?_
      refine g_run (by kernel_rfl) [(0, .d), (1, .d)] rfl ?_
      refine r_d rfl rfl rfl (s_cmp rfl rfl rfl rfl) ?_
      refine r_d rfl rfl rfl (s_assign rfl rfl) ?_
      refine r_end ?_
      refine g_sB 25 rfl hr (fun h25_5 hr => ?_) (fun h25_5 hr => ?_)
      ·
       refine g_condT rfl ?_
       refine g_skip ?_
       refine g_condT rfl ?_
       refine g_run (by kernel_rfl) [(0, .d), (1, .w), (2, .d), (3, .w)] rfl ?_
       refine r_d rfl rfl rfl (s_fieldRef rfl fl_instr_shape_0 rfl) ?_
       refine r_w01 rfl rfl rfl (t_store _ rfl rfl rfl (Wk.refl _) (pf0 _) rfl rfl (by exact ty_func_int__bool) rfl rfl rfl) ?_
       refine r_d rfl rfl rfl (s_fieldRef rfl fl_instr_shape_1 rfl) ?_
       refine r_w01 rfl rfl rfl (t_store _ rfl rfl rfl (Wk.refl _) (pf0 _) rfl rfl (by exact ty_func_int__bool) rfl rfl rfl) ?_
       refine r_end ?_
       refine g_inBlock ?_
       refine g_seq ?_
       refine g_run (by kernel_rfl) [(0, .r), (1, .w), (2, .d)] rfl ?_
       refine r_r rfl rfl rfl (t_loadRef rfl rfl (.head _) rfl rfl (by exact ty_instr_shape) rfl) ?_
       refine r_w01 rfl rfl rfl (t_store0 _ rfl rfl rfl (Wk.refl _) (pf0 _) (by exact ty_instr_shape) rfl rfl rfl) ?_
       refine r_d rfl rfl rfl (s_assign rfl rfl) ?_
       refine r_end ?_
       obtain rfl := Option.some.inj hr
       refine g_ret Try.func23 _ (.cons (resRef rfl (.head _) (by exact ty_instr_shape) rfl (Wk.refl _)) (.cons (resTmp rfl (Wk.refl _)) .nil)) ?_
       rfl
      ·
       refine g_condF rfl ?_
       refine g_run (by kernel_rfl) [(0, .d), (1, .d)] rfl ?_
       refine r_d rfl rfl rfl (s_cmp rfl rfl rfl rfl) ?_
       refine r_d rfl rfl rfl (s_assign rfl rfl) ?_
       refine r_end ?_
       refine g_sB 25 rfl hr (fun h25_6 hr => ?_) (fun h25_6 hr => ?_)
       ·
        refine g_condT rfl ?_
        refine g_run (by kernel_rfl) [(0, .d), (1, .w), (2, .d), (3, .w)] rfl ?_
        refine r_d rfl rfl rfl (s_fieldRef rfl fl_instr_shape_0 rfl) ?_
        refine r_w01 rfl rfl rfl (t_store _ rfl rfl rfl (Wk.refl _) (pf0 _) rfl rfl (by exact ty_func_int__bool) rfl rfl rfl) ?_
        refine r_d rfl rfl rfl (s_fieldRef rfl fl_instr_shape_1 rfl) ?_
        refine r_w01 rfl rfl rfl (t_store _ rfl rfl rfl (Wk.refl _) (pf0 _) rfl rfl (by exact ty_func_int__bool) rfl rfl rfl) ?_
        refine r_end ?_
        refine g_inBlock ?_
        refine g_seq ?_
        refine g_run (by kernel_rfl) [(0, .r), (1, .w), (2, .d)] rfl ?_
        refine r_r rfl rfl rfl (t_loadRef rfl rfl (.head _) rfl rfl (by exact ty_instr_shape) rfl) ?_
        refine r_w01 rfl rfl rfl (t_store0 _ rfl rfl rfl (Wk.refl _) (pf0 _) (by exact ty_instr_shape) rfl rfl rfl) ?_
        refine r_d rfl rfl rfl (s_assign rfl rfl) ?_
        refine r_end ?_
        obtain rfl := Option.some.inj hr
        refine g_ret Try.func23 _ (.cons (resRef rfl (.head _) (by exact ty_instr_shape) rfl (Wk.refl _)) (.cons (resTmp rfl (Wk.refl _)) .nil)) ?_
        rfl
       ·
        refine g_condF rfl ?_
        refine g_seq ?_
        refine g_run (by kernel_rfl) [(0, .d), (1, .d)] rfl ?_
        refine r_d rfl rfl rfl (s_cmp rfl rfl rfl rfl) ?_
        refine r_d rfl rfl rfl (s_assign rfl rfl) ?_
        refine r_end ?_
        refine g_sB 30 rfl hr (fun h30_7 hr => ?_) (fun h30_7 hr => ?_)
        ·
         refine g_condT rfl ?_
         refine g_run (by kernel_rfl) [(0, .d), (1, .w)] rfl ?_
         refine r_d rfl rfl rfl (s_fieldRef rfl fl_instr_shape_0 rfl) ?_
         refine r_w01 rfl rfl rfl (t_store _ rfl rfl rfl (Wk.refl _) (pf0 _) rfl rfl (by exact ty_func_int__bool) rfl rfl rfl) ?_
         refine r_end ?_
         refine g_inBlock ?_
         refine g_seq ?_
         refine g_run (by kernel_rfl) [(0, .r), (1, .w), (2, .d)] rfl ?_
         refine r_r rfl rfl rfl (t_loadRef rfl rfl (.head _) rfl rfl (by exact ty_instr_shape) rfl) ?_
         refine r_w01 rfl rfl rfl (t_store0 _ rfl rfl rfl (Wk.refl _) (pf0 _) (by exact ty_instr_shape) rfl rfl rfl) ?_
         refine r_d rfl rfl rfl (s_assign rfl rfl) ?_
         refine r_end ?_
         obtain rfl := Option.some.inj hr
         refine g_ret Try.func23 _ (.cons (resRef rfl (.head _) (by exact ty_instr_shape) rfl (Wk.refl _)) (.cons (resTmp rfl (Wk.refl _)) .nil)) ?_
         rfl
        ·
         refine g_condF rfl ?_
         refine g_seq ?_
         refine g_run (by kernel_rfl) [(0, .d), (1, .d)] rfl ?_
         refine r_d rfl rfl rfl (s_cmp rfl rfl rfl rfl) ?_
         refine r_d rfl rfl rfl (s_assign rfl rfl) ?_
         refine r_end ?_
         refine g_sB 33 rfl hr (fun h33_8 hr => ?_) (fun h33_8 hr => ?_)
         ·
          refine g_condT rfl ?_
          refine g_skip ?_
          refine g_inBlock ?_
          refine g_seq ?_
          refine g_run (by kernel_rfl) [(0, .r), (1, .w), (2, .d)] rfl ?_
          refine r_r rfl rfl rfl (t_loadRef rfl rfl (.head _) rfl rfl (by exact ty_instr_shape) rfl) ?_
          refine r_w01 rfl rfl rfl (t_store0 _ rfl rfl rfl (Wk.refl _) (pf0 _) (by exact ty_instr_shape) rfl rfl rfl) ?_
          refine r_d rfl rfl rfl (s_assign rfl rfl) ?_
          refine r_end ?_
          obtain rfl := Option.some.inj hr
          refine g_ret Try.func23 _ (.cons (resRef rfl (.head _) (by exact ty_instr_shape) rfl (Wk.refl _)) (.cons (resTmp rfl (Wk.refl _)) .nil)) ?_
          rfl
         ·
          refine g_condF rfl ?_
          refine g_seq ?_
          refine g_run (by kernel_rfl) [(0, .d), (1, .d)] rfl ?_
          refine r_d rfl rfl rfl (s_cmp rfl rfl rfl rfl) ?_
          refine r_d rfl rfl rfl (s_assign rfl rfl) ?_
          refine r_end ?_
          refine g_sB 35 rfl hr (fun h35_9 hr => ?_) (fun h35_9 hr => ?_)
          ·
           refine g_condT rfl ?_
           refine g_run (by kernel_rfl) [(0, .d), (1, .w)] rfl ?_
           refine r_d rfl rfl rfl (s_fieldRef rfl fl_instr_shape_4 rfl) ?_
           refine r_w01 rfl rfl rfl (t_store _ rfl rfl rfl (Wk.refl _) (pf0 _) rfl rfl (by exact ty_func_api_Goal__bool) rfl rfl rfl) ?_
           refine r_end ?_
           refine g_inBlock ?_
           refine g_seq ?_
           refine g_run (by kernel_rfl) [(0, .r), (1, .w), (2, .d)] rfl ?_
           refine r_r rfl rfl rfl (t_loadRef rfl rfl (.head _) rfl rfl (by exact ty_instr_shape) rfl) ?_
           refine r_w01 rfl rfl rfl (t_store0 _ rfl rfl rfl (Wk.refl _) (pf0 _) (by exact ty_instr_shape) rfl rfl rfl) ?_
           refine r_d rfl rfl rfl (s_assign rfl rfl) ?_
           refine r_end ?_
           obtain rfl := Option.some.inj hr
           refine g_ret Try.func23 _ (.cons (resRef rfl (.head _) (by exact ty_instr_shape) rfl (Wk.refl _)) (.cons (resTmp rfl (Wk.refl _)) .nil)) ?_
           rfl
          ·
           refine g_condF rfl ?_
           refine g_seq ?_
           refine g_run (by kernel_rfl) [(0, .d), (1, .d)] rfl ?_
           refine r_d rfl rfl rfl (s_cmp rfl rfl rfl rfl) ?_
           refine r_d rfl rfl rfl (s_assign rfl rfl) ?_
           refine r_end ?_
           refine g_sB 38 rfl hr (fun h38_10 hr => ?_) (fun h38_10 hr => ?_)
           ·
            refine g_condT rfl ?_
            refine g_run (by kernel_rfl) [(0, .d), (1, .w), (2, .d), (3, .w)] rfl ?_
            refine r_d rfl rfl rfl (s_fieldRef rfl fl_instr_shape_0 rfl) ?_
            refine r_w01 rfl rfl rfl (t_store _ rfl rfl rfl (Wk.refl _) (pf0 _) rfl rfl (by exact ty_func_int__bool) rfl rfl rfl) ?_
            refine r_d rfl rfl rfl (s_fieldRef rfl fl_instr_shape_1 rfl) ?_
            refine r_w01 rfl rfl rfl (t_store _ rfl rfl rfl (Wk.refl _) (pf0 _) rfl rfl (by exact ty_func_int__bool) rfl rfl rfl) ?_
            refine r_end ?_
            refine g_inBlock ?_
            refine g_seq ?_
            refine g_run (by kernel_rfl) [(0, .r), (1, .w), (2, .d)] rfl ?_
            refine r_r rfl rfl rfl (t_loadRef rfl rfl (.head _) rfl rfl (by exact ty_instr_shape) rfl) ?_
            refine r_w01 rfl rfl rfl (t_store0 _ rfl rfl rfl (Wk.refl _) (pf0 _) (by exact ty_instr_shape) rfl rfl rfl) ?_
            refine r_d rfl rfl rfl (s_assign rfl rfl) ?_
            refine r_end ?_
            obtain rfl := Option.some.inj hr
            refine g_ret Try.func23 _ (.cons (resRef rfl (.head _) (by exact ty_instr_shape) rfl (Wk.refl _)) (.cons (resTmp rfl (Wk.refl _)) .nil)) ?_
            rfl
           ·
            refine g_condF rfl ?_
            refine g_seq ?_
            refine g_run (by kernel_rfl) [(0, .d), (1, .w), (2, .d)] rfl ?_
            refine r_d rfl rfl rfl (s_build rfl bt_instr_shape .nil (.nil _)) ?_
            refine r_w01 rfl rfl rfl (t_store0 _ rfl rfl rfl (Wk.refl _) (pf0 _) (by exact ty_instr_shape) rfl rfl rfl) ?_
            refine r_d rfl rfl rfl (s_assign rfl rfl) ?_
            refine r_end ?_
            obtain rfl := Option.some.inj hr
            refine g_ret Try.func23 _ (.cons (resRef rfl (.head _) (by exact ty_instr_shape) rfl (Wk.refl _)) (.cons (resTmp rfl (Wk.refl _)) .nil)) ?_
            rfl

noncomputable def lf_instr_Right_1 (t_a0 : T) : Option (Bool) :=
  ((x_rightT t_a0).bind fun r_1 =>
  some ((!r_1)))

set_option maxHeartbeats 1000000 in
theorem lg_instr_Right_1 (t_a0 : T) (res : Bool) (hr : lf_instr_Right_1 t_a0 = some res) : Gives Try.prog 25 [encT t_a0] (.bool res) := by
  unfold lf_instr_Right_1 at hr
  refine spec_env [(0, encT t_a0)] Try.func25 rfl rfl fun K hK => ?_
  refine g_seq ?_
  refine g_run (by kernel_rfl) [(0, .d), (1, .d)] rfl ?_
  refine r_d rfl rfl rfl (s_box rfl rfl rfl) ?_
  refine r_d rfl rfl rfl (s_assign rfl rfl) ?_
  refine r_end ?_
  refine g_seq ?_
  refine g_run (by kernel_rfl) [(0, .d), (1, .d), (2, .d), (3, .d)] rfl ?_
  refine r_d rfl rfl rfl (s_load rfl rfl (by exact ty_api_Term) (sz_encT _)) ?_
  obtain ⟨r_1, hr_1, hr⟩ := bindS hr
  refine r_d rfl rfl rfl (s_callD rfl cl_term_Right (.cons rfl (Wk.refl _) .nil) (lx_term_Right _ _ hr_1)) ?_
  refine r_d rfl rfl rfl (s_not rfl rfl) ?_
  refine r_d rfl rfl rfl (s_assign rfl rfl) ?_
  refine r_end ?_
  obtain rfl := Option.some.inj hr
  refine g_ret Try.func25 _ (.cons (resTmp rfl (Wk.refl _)) .nil) ?_
  rfl

noncomputable def lf_slices_IndexFunc_s7_L0 (k : Option (Int)) : List T → Nat → Option (Int)
  | [], i_1 =>
  k
  | q_2 :: rest, i_1 =>
  ((lf_instr_Right_1 q_2).bind fun r_3 =>
  (bif r_3 then
  some ((i_1 : Int))
  else
  (lf_slices_IndexFunc_s7_L0 k rest (i_1 + 1))))
noncomputable def lf_slices_IndexFunc_s7 (s_a0 : (List T)) : Option (Int) :=
  (lf_slices_IndexFunc_s7_L0 (some ((-1))) s_a0 0)

set_option maxHeartbeats 1000000 in
theorem lg_slices_IndexFunc_s7 (s_a0 : (List T)) (res : Int) (hr : lf_slices_IndexFunc_s7 s_a0 = some res) : Gives Try.prog 67 [.lst (s_a0.map encT), .clo (.func 25) [] []] (.int .i64 res) := by
  unfold lf_slices_IndexFunc_s7 at hr
  refine spec_env [(0, .lst (s_a0.map encT)), (1, .clo (.func 25) [] [])] Try.func67 rfl rfl fun K hK => ?_
  refine g_seq ?_
  refine g_run (by kernel_rfl) [(0, .d)] rfl ?_
  refine r_d rfl rfl rfl (s_assign rfl rfl) ?_
  refine r_end ?_
  refine g_seq ?_
  refine g_seq ?_
  refine g_run (by kernel_rfl) [(0, .d), (1, .d), (2, .d)] rfl ?_
  refine r_d rfl rfl rfl (s_move rfl rfl) ?_
  refine r_d rfl rfl rfl (m_len (f := encT) s_a0 rfl el_L_api_Term rfl (asl rfl)) ?_
  refine r_d rfl rfl rfl (s_move rfl rfl) ?_
  refine r_end ?_
  obtain ⟨kk0, hkk0, hr⟩ := exK (fun k => lf_slices_IndexFunc_s7_L0 k s_a0 0) hr
  refine g_len 0 rfl (asl rfl) fun hla0 => ?_
  simp only [List.length_map] at hla0
  refine g_blockJ (fun env σ => env = [] ∧ σ = [] ∧ kk0 = some res) ?_ (fun HK0 => ?_)
  ·
   rintro _ _ ⟨rfl, rfl, hr⟩
   rw [hkk0] at hr
   refine g_seq ?_
   refine g_run (by kernel_rfl) [(0, .d)] rfl ?_
   refine r_d rfl rfl rfl (s_assign rfl rfl) ?_
   refine r_end ?_
   obtain rfl := Option.some.inj hr
   refine g_ret Try.func67 _ (.cons (resTmp rfl (Wk.refl _)) .nil) ?_
   rfl
  ·
   refine g_sub [(0, .lst (s_a0.map encT)), (1, .clo (.func 25) [] []), (7, .int .i64 (s_a0.length : Int)), (8, .int .i64 ((0 : Nat) : Int))] (Sub.cons' rfl (Sub.cons' rfl (Sub.cons' rfl (Sub.cons' rfl (Sub.nil _))))) ?_
   refine g_loop (fun n env σ => ∃ (i_1 : Nat), (n = s_a0.length - i_1) ∧ (env = [(0, .lst (s_a0.map encT)), (1, .clo (.func 25) [] []), (7, .int .i64 (s_a0.length : Int)), (8, .int .i64 (i_1 : Int))]) ∧ (σ = []) ∧ (i_1 ≤ s_a0.length) ∧ (lf_slices_IndexFunc_s7_L0 kk0 (s_a0.drop i_1) i_1 = some res)) _ ⟨0, rfl, rfl, rfl, Nat.zero_le _, hr⟩ ?_
   rintro n _ _ ⟨i_1, rfl, rfl, rfl, hi0, hr⟩ IH0
   rcases listStep s_a0 i_1 hi0 with ⟨ht0, hd0, he0⟩ | ⟨q_2, ht0, hd0, hq0, hlt0⟩
   ·
    rw [hd0, lf_slices_IndexFunc_s7_L0] at hr
    refine g_seq ?_
    refine g_run (by kernel_rfl) [(0, .d)] rfl ?_
    refine r_d rfl rfl rfl (s_cmp rfl rfl rfl rfl) ?_
    refine r_end ?_
    refine g_seq ?_
    refine g_known 9 false rfl ht0 ?_
    refine g_condF rfl ?_
    refine g_exit rfl ?_
    refine g_sub [] (Sub.nil _) ?_
    exact HK0 _ _ ⟨rfl, rfl, hr⟩
   ·
    rw [hd0, lf_slices_IndexFunc_s7_L0] at hr
    refine g_seq ?_
    refine g_run (by kernel_rfl) [(0, .d)] rfl ?_
    refine r_d rfl rfl rfl (s_cmp rfl rfl rfl rfl) ?_
    refine r_end ?_
    refine g_seq ?_
    refine g_known 9 true rfl ht0 ?_
    refine g_condT rfl ?_
    refine g_skip ?_
    refine g_seq ?_
    refine g_block ?_
    refine g_seq ?_
    refine g_run (by kernel_rfl) [(0, .d), (1, .d)] rfl ?_
    refine r_d rfl rfl rfl (s_move rfl rfl) ?_
    refine r_d rfl rfl rfl (s_assign rfl rfl) ?_
    refine r_end ?_
    refine g_seq ?_
    refine g_run (by kernel_rfl) [(0, .d), (1, .d), (2, .d), (3, .d), (4, .d), (5, .d)] rfl ?_
    refine r_d rfl rfl rfl (s_move rfl rfl) ?_
    refine r_d rfl rfl rfl (s_move rfl rfl) ?_
    refine r_d rfl rfl rfl (s_move rfl rfl) ?_
    refine r_d rfl rfl rfl (m_index (f := encT) s_a0 rfl el_L_api_Term rfl (asl rfl) rfl hq0 sz_encT rfl) ?_
    refine r_d rfl rfl rfl (s_load rfl rfl (by exact ty_api_Term) (sz_encT _)) ?_
    obtain ⟨r_3, hr_3, hr⟩ := bindS hr
    refine r_d rfl rfl rfl (s_callVD rfl rfl cl_instr_Right_1 (.cons rfl (Wk.refl _) .nil) rfl (lg_instr_Right_1 _ _ hr_3)) ?_
    refine r_end ?_
    refine g_sB 16 rfl hr (fun h16_3 hr => ?_) (fun h16_3 hr => ?_)
    ·
     refine g_condT rfl ?_
     refine g_seq ?_
     refine g_run (by kernel_rfl) [(0, .d), (1, .d)] rfl ?_
     refine r_d rfl rfl rfl (s_move rfl rfl) ?_
     refine r_d rfl rfl rfl (s_assign rfl rfl) ?_
     refine r_end ?_
     obtain rfl := Option.some.inj hr
     refine g_ret Try.func67 _ (.cons (resTmp rfl (Wk.refl _)) .nil) ?_
     rfl
    ·
     refine g_condF rfl ?_
     refine g_skip ?_
     refine g_inBlock ?_
     refine g_run (by kernel_rfl) [(0, .d), (1, .d)] rfl ?_
     refine r_d rfl rfl rfl (s_ar (r := ((i_1 + 1 : Nat) : Int)) rfl rfl rfl (by simp [iar]) (by omega)) ?_
     refine r_d rfl rfl rfl (s_move rfl rfl) ?_
     refine r_end ?_
     refine g_sub [(0, .lst (s_a0.map encT)), (1, .clo (.func 25) [] []), (7, .int .i64 (s_a0.length : Int)), (8, .int .i64 ((i_1 + 1 : Nat) : Int))] (Sub.cons' rfl (Sub.cons' rfl (Sub.cons' rfl (Sub.cons' rfl (Sub.nil _))))) ?_
     exact IH0 _ _ _ (by omega) ⟨(i_1 + 1), rfl, rfl, rfl, (by omega), hr⟩

noncomputable def lf_slices_ContainsFunc_s5 (s_a0 : (List T)) : Option (Bool) :=
  ((lf_slices_IndexFunc_s7 s_a0).bind fun r_1 =>
  some ((decide (r_1 ≥ (0 : Int)))))

set_option maxHeartbeats 1000000 in
theorem lg_slices_ContainsFunc_s5 (s_a0 : (List T)) (res : Bool) (hr : lf_slices_ContainsFunc_s5 s_a0 = some res) : Gives Try.prog 24 [.lst (s_a0.map encT), .clo (.func 25) [] []] (.bool res) := by
  unfold lf_slices_ContainsFunc_s5 at hr
  refine spec_env [(0, .lst (s_a0.map encT)), (1, .clo (.func 25) [] [])] Try.func24 rfl rfl fun K hK => ?_
  refine g_seq ?_
  refine g_run (by kernel_rfl) [(0, .d)] rfl ?_
  refine r_d rfl rfl rfl (s_assign rfl rfl) ?_
  refine r_end ?_
  refine g_seq ?_
  refine g_run (by kernel_rfl) [(0, .d), (1, .d), (2, .d), (3, .d), (4, .d)] rfl ?_
  refine r_d rfl rfl rfl (s_move rfl rfl) ?_
  refine r_d rfl rfl rfl (s_move rfl rfl) ?_
  obtain ⟨r_1, hr_1, hr⟩ := bindS hr
  refine r_d rfl rfl rfl (s_callD rfl cl_slices_IndexFunc_api_Term_api_Term (.cons rfl (Wk.refl _) (.cons rfl (Wk.refl _) .nil)) (lg_slices_IndexFunc_s7 _ _ hr_1)) ?_
  refine r_d rfl rfl rfl (s_cmp rfl rfl rfl rfl) ?_
  refine r_d rfl rfl rfl (s_assign rfl rfl) ?_
  refine r_end ?_
  obtain rfl := Option.some.inj hr
  refine g_ret Try.func24 _ (.cons (resTmp rfl (Wk.refl _)) .nil) ?_
  rfl

noncomputable def lf_instr_Right (i_a0 : S_api_Instr) : Option (Bool) :=
  ((lf_instr_of i_a0.f0_Op).bind fun r_1 =>
  (bif (!r_1.2) then
  some (false)
  else
  ((r_1.1.pa i_a0.f1_A).bind fun r_4 =>
  (bif (!r_4) then
  some (false)
  else
  ((r_1.1.pb i_a0.f2_B).bind fun r_6 =>
  (bif (!r_6) then
  some (false)
  else
  ((r_1.1.pg i_a0.f3_Goal).bind fun r_8 =>
  (bif (!r_8) then
  some (false)
  else
  (bif (decide ((i_a0.f4_Terms.length : Int) < r_1.1.least)) then
  some (false)
  else
  (bif (decide ((i_a0.f4_Terms.length : Int) > r_1.1.most)) then
  some (false)
  else
  (bif (i_a0.f0_Op != (4 : Int)) then
  ((lf_slices_ContainsFunc_s5 i_a0.f4_Terms).bind fun r_13 =>
  some ((!r_13)))
  else
  (bif (i_a0.f1_A != i_a0.f2_B) then
  ((lf_slices_ContainsFunc_s5 i_a0.f4_Terms).bind fun r_15 =>
  some ((!r_15)))
  else
  some (false)))))))))))))

set_option maxHeartbeats 1000000 in
theorem lg_instr_Right (i_a0 : S_api_Instr) (res : Bool) (hr : lf_instr_Right i_a0 = some res) : Gives Try.prog 9 [enc_S_api_Instr i_a0] (.bool res) := by
  unfold lf_instr_Right at hr
  refine spec_env [(0, enc_S_api_Instr i_a0)] Try.func9 rfl rfl fun K hK => ?_
  refine g_seq ?_
  refine g_run (by kernel_rfl) [(0, .d), (1, .d)] rfl ?_
  refine r_d rfl rfl rfl (s_box rfl rfl rfl) ?_
  refine r_d rfl rfl rfl (s_assign rfl rfl) ?_
  refine r_end ?_
  refine g_seq ?_
  refine g_run (by kernel_rfl) [(0, .d), (1, .d), (2, .d), (3, .d), (4, .d), (5, .d), (6, .w), (7, .w), (8, .d)] rfl ?_
  refine r_d rfl rfl rfl (s_fieldAddr rfl fl_api_Instr_0 rfl rfl rfl rfl) ?_
  refine r_d rfl rfl rfl (s_load rfl rfl (by exact ty_int) rfl) ?_
  obtain ⟨r_1, hr_1, hr⟩ := bindS hr
  have hok := ofOk _ _ hr_1
  refine r_d rfl rfl rfl (s_callD rfl cl_instr_of (.cons rfl (Wk.refl _) .nil) (lg_instr_of _ _ hr_1)) ?_
  refine r_d rfl rfl rfl (s_move rfl rfl) ?_
  refine r_d rfl rfl rfl (s_extract rfl rfl rfl) ?_
  refine r_d rfl rfl rfl (s_extract rfl rfl rfl) ?_
  refine r_w rfl rfl rfl (s_alloc rfl zv_instr_shape) ?_
  rintro _ _ ⟨b3_1, rfl, rfl⟩
  refine r_w01 rfl rfl rfl (t_store0 _ rfl rfl rfl (Wk.refl _) (pf0 _) (by exact ty_instr_shape) (sD_sz _ _) rfl (sD_plain _ _)) ?_
  refine r_d rfl rfl rfl (s_assign rfl rfl) ?_
  refine r_end ?_
  refine g_freeze 3 b3_1 rfl (pf0 _) ?_
  refine g_seq ?_
  refine g_seq ?_
  refine g_run (by kernel_rfl) [(0, .d), (1, .d), (2, .d), (3, .d), (4, .d), (5, .d), (6, .d), (7, .d), (8, .d), (9, .d), (10, .d), (11, .d), (12, .d), (13, .d), (14, .d), (15, .d), (16, .d), (17, .d), (18, .d), (19, .d), (20, .d), (21, .d), (22, .d), (23, .d), (24, .d), (25, .d), (26, .d), (27, .d), (28, .d), (29, .d), (30, .d), (31, .d), (32, .d), (33, .d), (34, .d), (35, .d), (36, .d), (37, .d), (38, .d), (39, .d), (40, .d), (41, .d)] rfl ?_
  refine r_d rfl rfl rfl (s_move rfl rfl) ?_
  refine r_d rfl rfl rfl (s_not rfl rfl) ?_
  refine r_d rfl rfl rfl (s_move rfl rfl) ?_
  refine r_sB 13 rfl hr (fun h13_2 hr => ?_) (fun h13_2 hr => ?_)
  ·
   refine r_skip rfl rfl rfl ?_
   refine r_skip rfl rfl rfl ?_
   refine r_skip rfl rfl rfl ?_
   refine r_skip rfl rfl rfl ?_
   refine r_skip rfl rfl rfl ?_
   refine r_skip rfl rfl rfl ?_
   refine r_d rfl rfl rfl (s_pickT rfl rfl rfl) ?_
   refine r_d rfl rfl rfl (s_move rfl rfl) ?_
   refine r_skip rfl rfl rfl ?_
   refine r_skip rfl rfl rfl ?_
   refine r_skip rfl rfl rfl ?_
   refine r_skip rfl rfl rfl ?_
   refine r_skip rfl rfl rfl ?_
   refine r_skip rfl rfl rfl ?_
   refine r_d rfl rfl rfl (s_pickT rfl rfl rfl) ?_
   refine r_d rfl rfl rfl (s_move rfl rfl) ?_
   refine r_skip rfl rfl rfl ?_
   refine r_skip rfl rfl rfl ?_
   refine r_skip rfl rfl rfl ?_
   refine r_skip rfl rfl rfl ?_
   refine r_skip rfl rfl rfl ?_
   refine r_skip rfl rfl rfl ?_
   refine r_d rfl rfl rfl (s_pickT rfl rfl rfl) ?_
   refine r_d rfl rfl rfl (s_move rfl rfl) ?_
   refine r_skip rfl rfl rfl ?_
   refine r_skip rfl rfl rfl ?_
   refine r_skip rfl rfl rfl ?_
   refine r_skip rfl rfl rfl ?_
   refine r_skip rfl rfl rfl ?_
   refine r_skip rfl rfl rfl ?_
   refine r_d rfl rfl rfl (s_pickT rfl rfl rfl) ?_
   refine r_d rfl rfl rfl (s_move rfl rfl) ?_
   refine r_skip rfl rfl rfl ?_
   refine r_skip rfl rfl rfl ?_
   refine r_skip rfl rfl rfl ?_
   refine r_skip rfl rfl rfl ?_
   refine r_skip rfl rfl rfl ?_
   refine r_skip rfl rfl rfl ?_
   refine r_d rfl rfl rfl (s_pickT rfl rfl rfl) ?_
   refine r_end ?_
   refine g_condT rfl ?_
   refine g_seq ?_
   refine g_run (by kernel_rfl) [(0, .d)] rfl ?_
   refine r_d rfl rfl rfl (s_assign rfl rfl) ?_
   refine r_end ?_
   obtain rfl := Option.some.inj hr
   refine g_ret Try.func9 _ (.cons (resTmp rfl (Wk.refl _)) .nil) ?_
   rfl
  ·
   have hb : r_1.2 = true := by simpa using h13_2
   refine r_eqD 3 (d' := .ptr (.agg [.clo (.func r_1.1.fa) [] [], .clo (.func r_1.1.fb) [] [], .int .i64 r_1.1.least, .int .i64 r_1.1.most, .clo (.func r_1.1.fg) [] []])) rfl (by rw [hb]; rfl) ?_
   refine r_d rfl rfl rfl (s_fieldAddr rfl fl_instr_shape_0 rfl rfl rfl rfl) ?_
   refine r_d rfl rfl rfl (s_load rfl rfl (by exact ty_func_int__bool) rfl) ?_
   refine r_d rfl rfl rfl (s_fieldAddr rfl fl_api_Instr_1 rfl rfl rfl rfl) ?_
   refine r_d rfl rfl rfl (s_load rfl rfl (by exact ty_int) rfl) ?_
   obtain ⟨r_4, hr_4, hr⟩ := bindS hr
   refine r_d rfl rfl rfl (s_callVD rfl rfl hok.ca (.cons rfl (Wk.refl _) .nil) rfl (hok.ga _ _ hr_4)) ?_
   refine r_d rfl rfl rfl (s_not rfl rfl) ?_
   refine r_d rfl rfl rfl (s_pickF rfl rfl rfl) ?_
   refine r_d rfl rfl rfl (s_move rfl rfl) ?_
   refine r_sB 21 rfl hr (fun h21_4 hr => ?_) (fun h21_4 hr => ?_)
   ·
    refine r_skip rfl rfl rfl ?_
    refine r_skip rfl rfl rfl ?_
    refine r_skip rfl rfl rfl ?_
    refine r_skip rfl rfl rfl ?_
    refine r_skip rfl rfl rfl ?_
    refine r_skip rfl rfl rfl ?_
    refine r_d rfl rfl rfl (s_pickT rfl rfl rfl) ?_
    refine r_d rfl rfl rfl (s_move rfl rfl) ?_
    refine r_skip rfl rfl rfl ?_
    refine r_skip rfl rfl rfl ?_
    refine r_skip rfl rfl rfl ?_
    refine r_skip rfl rfl rfl ?_
    refine r_skip rfl rfl rfl ?_
    refine r_skip rfl rfl rfl ?_
    refine r_d rfl rfl rfl (s_pickT rfl rfl rfl) ?_
    refine r_d rfl rfl rfl (s_move rfl rfl) ?_
    refine r_skip rfl rfl rfl ?_
    refine r_skip rfl rfl rfl ?_
    refine r_skip rfl rfl rfl ?_
    refine r_skip rfl rfl rfl ?_
    refine r_skip rfl rfl rfl ?_
    refine r_skip rfl rfl rfl ?_
    refine r_d rfl rfl rfl (s_pickT rfl rfl rfl) ?_
    refine r_d rfl rfl rfl (s_move rfl rfl) ?_
    refine r_skip rfl rfl rfl ?_
    refine r_skip rfl rfl rfl ?_
    refine r_skip rfl rfl rfl ?_
    refine r_skip rfl rfl rfl ?_
    refine r_skip rfl rfl rfl ?_
    refine r_skip rfl rfl rfl ?_
    refine r_d rfl rfl rfl (s_pickT rfl rfl rfl) ?_
    refine r_end ?_
    refine g_condT rfl ?_
    refine g_seq ?_
    refine g_run (by kernel_rfl) [(0, .d)] rfl ?_
    refine r_d rfl rfl rfl (s_assign rfl rfl) ?_
    refine r_end ?_
    obtain rfl := Option.some.inj hr
    refine g_ret Try.func9 _ (.cons (resTmp rfl (Wk.refl _)) .nil) ?_
    rfl
   ·
    refine r_d rfl rfl rfl (s_fieldAddr rfl fl_instr_shape_1 rfl rfl rfl rfl) ?_
    refine r_d rfl rfl rfl (s_load rfl rfl (by exact ty_func_int__bool) rfl) ?_
    refine r_d rfl rfl rfl (s_fieldAddr rfl fl_api_Instr_2 rfl rfl rfl rfl) ?_
    refine r_d rfl rfl rfl (s_load rfl rfl (by exact ty_int) rfl) ?_
    obtain ⟨r_6, hr_6, hr⟩ := bindS hr
    refine r_d rfl rfl rfl (s_callVD rfl rfl hok.cb (.cons rfl (Wk.refl _) .nil) rfl (hok.gb _ _ hr_6)) ?_
    refine r_d rfl rfl rfl (s_not rfl rfl) ?_
    refine r_d rfl rfl rfl (s_pickF rfl rfl rfl) ?_
    refine r_d rfl rfl rfl (s_move rfl rfl) ?_
    refine r_sB 29 rfl hr (fun h29_6 hr => ?_) (fun h29_6 hr => ?_)
    ·
     refine r_skip rfl rfl rfl ?_
     refine r_skip rfl rfl rfl ?_
     refine r_skip rfl rfl rfl ?_
     refine r_skip rfl rfl rfl ?_
     refine r_skip rfl rfl rfl ?_
     refine r_skip rfl rfl rfl ?_
     refine r_d rfl rfl rfl (s_pickT rfl rfl rfl) ?_
     refine r_d rfl rfl rfl (s_move rfl rfl) ?_
     refine r_skip rfl rfl rfl ?_
     refine r_skip rfl rfl rfl ?_
     refine r_skip rfl rfl rfl ?_
     refine r_skip rfl rfl rfl ?_
     refine r_skip rfl rfl rfl ?_
     refine r_skip rfl rfl rfl ?_
     refine r_d rfl rfl rfl (s_pickT rfl rfl rfl) ?_
     refine r_d rfl rfl rfl (s_move rfl rfl) ?_
     refine r_skip rfl rfl rfl ?_
     refine r_skip rfl rfl rfl ?_
     refine r_skip rfl rfl rfl ?_
     refine r_skip rfl rfl rfl ?_
     refine r_skip rfl rfl rfl ?_
     refine r_skip rfl rfl rfl ?_
     refine r_d rfl rfl rfl (s_pickT rfl rfl rfl) ?_
     refine r_end ?_
     refine g_condT rfl ?_
     refine g_seq ?_
     refine g_run (by kernel_rfl) [(0, .d)] rfl ?_
     refine r_d rfl rfl rfl (s_assign rfl rfl) ?_
     refine r_end ?_
     obtain rfl := Option.some.inj hr
     refine g_ret Try.func9 _ (.cons (resTmp rfl (Wk.refl _)) .nil) ?_
     rfl
    ·
     refine r_d rfl rfl rfl (s_fieldAddr rfl fl_instr_shape_4 rfl rfl rfl rfl) ?_
     refine r_d rfl rfl rfl (s_load rfl rfl (by exact ty_func_api_Goal__bool) rfl) ?_
     refine r_d rfl rfl rfl (s_fieldAddr rfl fl_api_Instr_3 rfl rfl rfl rfl) ?_
     refine r_d rfl rfl rfl (s_load rfl rfl (by exact ty_api_Goal) (sz_encG _)) ?_
     obtain ⟨r_8, hr_8, hr⟩ := bindS hr
     refine r_d rfl rfl rfl (s_callVD rfl rfl hok.cg (.cons rfl (Wk.refl _) .nil) rfl (hok.gg _ _ hr_8)) ?_
     refine r_d rfl rfl rfl (s_not rfl rfl) ?_
     refine r_d rfl rfl rfl (s_pickF rfl rfl rfl) ?_
     refine r_d rfl rfl rfl (s_move rfl rfl) ?_
     refine r_sB 37 rfl hr (fun h37_8 hr => ?_) (fun h37_8 hr => ?_)
     ·
      refine r_skip rfl rfl rfl ?_
      refine r_skip rfl rfl rfl ?_
      refine r_skip rfl rfl rfl ?_
      refine r_skip rfl rfl rfl ?_
      refine r_skip rfl rfl rfl ?_
      refine r_skip rfl rfl rfl ?_
      refine r_d rfl rfl rfl (s_pickT rfl rfl rfl) ?_
      refine r_d rfl rfl rfl (s_move rfl rfl) ?_
      refine r_skip rfl rfl rfl ?_
      refine r_skip rfl rfl rfl ?_
      refine r_skip rfl rfl rfl ?_
      refine r_skip rfl rfl rfl ?_
      refine r_skip rfl rfl rfl ?_
      refine r_skip rfl rfl rfl ?_
      refine r_d rfl rfl rfl (s_pickT rfl rfl rfl) ?_
      refine r_end ?_
      refine g_condT rfl ?_
      refine g_seq ?_
      refine g_run (by kernel_rfl) [(0, .d)] rfl ?_
      refine r_d rfl rfl rfl (s_assign rfl rfl) ?_
      refine r_end ?_
      obtain rfl := Option.some.inj hr
      refine g_ret Try.func9 _ (.cons (resTmp rfl (Wk.refl _)) .nil) ?_
      rfl
     ·
      refine r_d rfl rfl rfl (s_fieldAddr rfl fl_api_Instr_4 rfl rfl (by simp [szs, sz, sz_encG]) rfl) ?_
      refine r_d rfl rfl rfl (s_load rfl rfl (by exact ty_L_api_Term) rfl) ?_
      refine r_d rfl rfl rfl (m_len (f := encT) i_a0.f4_Terms rfl el_L_api_Term rfl (asl rfl)) ?_
      refine r_d rfl rfl rfl (s_fieldAddr rfl fl_instr_shape_2 rfl rfl rfl rfl) ?_
      refine r_d rfl rfl rfl (s_load rfl rfl (by exact ty_int) rfl) ?_
      refine r_d rfl rfl rfl (s_cmp rfl rfl rfl rfl) ?_
      refine r_d rfl rfl rfl (s_pickF rfl rfl rfl) ?_
      refine r_d rfl rfl rfl (s_move rfl rfl) ?_
      refine r_sB 45 rfl hr (fun h45_9 hr => ?_) (fun h45_9 hr => ?_)
      ·
       refine r_skip rfl rfl rfl ?_
       refine r_skip rfl rfl rfl ?_
       refine r_skip rfl rfl rfl ?_
       refine r_skip rfl rfl rfl ?_
       refine r_skip rfl rfl rfl ?_
       refine r_skip rfl rfl rfl ?_
       refine r_d rfl rfl rfl (s_pickT rfl rfl rfl) ?_
       refine r_end ?_
       refine g_condT rfl ?_
       refine g_seq ?_
       refine g_run (by kernel_rfl) [(0, .d)] rfl ?_
       refine r_d rfl rfl rfl (s_assign rfl rfl) ?_
       refine r_end ?_
       obtain rfl := Option.some.inj hr
       refine g_ret Try.func9 _ (.cons (resTmp rfl (Wk.refl _)) .nil) ?_
       rfl
      ·
       refine r_d rfl rfl rfl (s_fieldAddr rfl fl_api_Instr_4 rfl rfl (by simp [szs, sz, sz_encG]) rfl) ?_
       refine r_d rfl rfl rfl (s_load rfl rfl (by exact ty_L_api_Term) rfl) ?_
       refine r_d rfl rfl rfl (m_len (f := encT) i_a0.f4_Terms rfl el_L_api_Term rfl (asl rfl)) ?_
       refine r_d rfl rfl rfl (s_fieldAddr rfl fl_instr_shape_3 rfl rfl rfl rfl) ?_
       refine r_d rfl rfl rfl (s_load rfl rfl (by exact ty_int) rfl) ?_
       refine r_d rfl rfl rfl (s_cmp rfl rfl rfl rfl) ?_
       refine r_d rfl rfl rfl (s_pickF rfl rfl rfl) ?_
       refine r_end ?_
       refine g_sB 52 rfl hr (fun h52_10 hr => ?_) (fun h52_10 hr => ?_)
       ·
        refine g_condT rfl ?_
        refine g_seq ?_
        refine g_run (by kernel_rfl) [(0, .d)] rfl ?_
        refine r_d rfl rfl rfl (s_assign rfl rfl) ?_
        refine r_end ?_
        obtain rfl := Option.some.inj hr
        refine g_ret Try.func9 _ (.cons (resTmp rfl (Wk.refl _)) .nil) ?_
        rfl
       ·
        refine g_condF rfl ?_
        refine g_skip ?_
        refine g_seq ?_
        refine g_run (by kernel_rfl) [(0, .d), (1, .d), (2, .d), (3, .d), (4, .d), (5, .d), (6, .d), (7, .d), (8, .d), (9, .d), (10, .d), (11, .d), (12, .d), (13, .d), (14, .d), (15, .d), (16, .d)] rfl ?_
        refine r_d rfl rfl rfl (s_fieldAddr rfl fl_api_Instr_0 rfl rfl rfl rfl) ?_
        refine r_d rfl rfl rfl (s_load rfl rfl (by exact ty_int) rfl) ?_
        refine r_d rfl rfl rfl (s_cmp rfl rfl rfl rfl) ?_
        refine r_d rfl rfl rfl (s_move rfl rfl) ?_
        refine r_sB 56 rfl hr (fun h56_11 hr => ?_) (fun h56_11 hr => ?_)
        ·
         refine r_skip rfl rfl rfl ?_
         refine r_skip rfl rfl rfl ?_
         refine r_skip rfl rfl rfl ?_
         refine r_skip rfl rfl rfl ?_
         refine r_skip rfl rfl rfl ?_
         refine r_d rfl rfl rfl (s_pickT rfl rfl rfl) ?_
         refine r_d rfl rfl rfl (s_move rfl rfl) ?_
         refine r_d rfl rfl rfl (s_fieldAddr rfl fl_api_Instr_4 rfl rfl (by simp [szs, sz, sz_encG]) rfl) ?_
         refine r_d rfl rfl rfl (s_load rfl rfl (by exact ty_L_api_Term) rfl) ?_
         obtain ⟨r_13, hr_13, hr⟩ := bindS hr
         refine r_d rfl rfl rfl (s_callD rfl cl_slices_ContainsFunc_api_Term_api_Term (.cons rfl (Wk.refl _) (.cons rfl (Wk.refl _) .nil)) (lg_slices_ContainsFunc_s5 _ _ hr_13)) ?_
         refine r_d rfl rfl rfl (s_not rfl rfl) ?_
         refine r_d rfl rfl rfl (s_pickT rfl rfl rfl) ?_
         refine r_d rfl rfl rfl (s_assign rfl rfl) ?_
         refine r_end ?_
         obtain rfl := Option.some.inj hr
         refine g_ret Try.func9 _ (.cons (resTmp rfl (Wk.refl _)) .nil) ?_
         rfl
        ·
         refine r_d rfl rfl rfl (s_fieldAddr rfl fl_api_Instr_1 rfl rfl rfl rfl) ?_
         refine r_d rfl rfl rfl (s_load rfl rfl (by exact ty_int) rfl) ?_
         refine r_d rfl rfl rfl (s_fieldAddr rfl fl_api_Instr_2 rfl rfl rfl rfl) ?_
         refine r_d rfl rfl rfl (s_load rfl rfl (by exact ty_int) rfl) ?_
         refine r_d rfl rfl rfl (s_cmp rfl rfl rfl rfl) ?_
         refine r_d rfl rfl rfl (s_pickF rfl rfl rfl) ?_
         refine r_d rfl rfl rfl (s_move rfl rfl) ?_
         refine r_sB 63 rfl hr (fun h63_13 hr => ?_) (fun h63_13 hr => ?_)
         ·
          refine r_d rfl rfl rfl (s_fieldAddr rfl fl_api_Instr_4 rfl rfl (by simp [szs, sz, sz_encG]) rfl) ?_
          refine r_d rfl rfl rfl (s_load rfl rfl (by exact ty_L_api_Term) rfl) ?_
          obtain ⟨r_15, hr_15, hr⟩ := bindS hr
          refine r_d rfl rfl rfl (s_callD rfl cl_slices_ContainsFunc_api_Term_api_Term (.cons rfl (Wk.refl _) (.cons rfl (Wk.refl _) .nil)) (lg_slices_ContainsFunc_s5 _ _ hr_15)) ?_
          refine r_d rfl rfl rfl (s_not rfl rfl) ?_
          refine r_d rfl rfl rfl (s_pickT rfl rfl rfl) ?_
          refine r_d rfl rfl rfl (s_assign rfl rfl) ?_
          refine r_end ?_
          obtain rfl := Option.some.inj hr
          refine g_ret Try.func9 _ (.cons (resTmp rfl (Wk.refl _)) .nil) ?_
          rfl
         ·
          refine r_skip rfl rfl rfl ?_
          refine r_skip rfl rfl rfl ?_
          refine r_skip rfl rfl rfl ?_
          refine r_skip rfl rfl rfl ?_
          refine r_d rfl rfl rfl (s_pickF rfl rfl rfl) ?_
          refine r_d rfl rfl rfl (s_assign rfl rfl) ?_
          refine r_end ?_
          obtain rfl := Option.some.inj hr
          refine g_ret Try.func9 _ (.cons (resTmp rfl (Wk.refl _)) .nil) ?_
          rfl

noncomputable def lf_instr_Check_1 (i_a0 : S_api_Instr) : Option (Bool) :=
  ((lf_instr_Right i_a0).bind fun r_1 =>
  some ((!r_1)))

set_option maxHeartbeats 1000000 in
theorem lg_instr_Check_1 (i_a0 : S_api_Instr) (res : Bool) (hr : lf_instr_Check_1 i_a0 = some res) : Gives Try.prog 51 [enc_S_api_Instr i_a0] (.bool res) := by
  unfold lf_instr_Check_1 at hr
  refine spec_env [(0, enc_S_api_Instr i_a0)] Try.func51 rfl rfl fun K hK => ?_
  refine g_seq ?_
  refine g_run (by kernel_rfl) [(0, .d), (1, .d)] rfl ?_
  refine r_d rfl rfl rfl (s_box rfl rfl rfl) ?_
  refine r_d rfl rfl rfl (s_assign rfl rfl) ?_
  refine r_end ?_
  refine g_seq ?_
  refine g_run (by kernel_rfl) [(0, .d), (1, .d), (2, .d), (3, .d)] rfl ?_
  refine r_d rfl rfl rfl (s_load rfl rfl (by exact ty_api_Instr) (sz_S_api_Instr _)) ?_
  obtain ⟨r_1, hr_1, hr⟩ := bindS hr
  refine r_d rfl rfl rfl (s_callD rfl cl_instr_Right (.cons rfl (Wk.refl _) .nil) (lg_instr_Right _ _ hr_1)) ?_
  refine r_d rfl rfl rfl (s_not rfl rfl) ?_
  refine r_d rfl rfl rfl (s_assign rfl rfl) ?_
  refine r_end ?_
  obtain rfl := Option.some.inj hr
  refine g_ret Try.func51 _ (.cons (resTmp rfl (Wk.refl _)) .nil) ?_
  rfl

noncomputable def lf_slices_IndexFunc_s8_L0 (k : Option (Int)) : List S_api_Instr → Nat → Option (Int)
  | [], i_1 =>
  k
  | q_2 :: rest, i_1 =>
  ((lf_instr_Check_1 q_2).bind fun r_3 =>
  (bif r_3 then
  some ((i_1 : Int))
  else
  (lf_slices_IndexFunc_s8_L0 k rest (i_1 + 1))))
noncomputable def lf_slices_IndexFunc_s8 (s_a0 : (List S_api_Instr)) : Option (Int) :=
  (lf_slices_IndexFunc_s8_L0 (some ((-1))) s_a0 0)

set_option maxHeartbeats 1000000 in
theorem lg_slices_IndexFunc_s8 (s_a0 : (List S_api_Instr)) (res : Int) (hr : lf_slices_IndexFunc_s8 s_a0 = some res) : Gives Try.prog 74 [.lst (s_a0.map enc_S_api_Instr), .clo (.func 51) [] []] (.int .i64 res) := by
  unfold lf_slices_IndexFunc_s8 at hr
  refine spec_env [(0, .lst (s_a0.map enc_S_api_Instr)), (1, .clo (.func 51) [] [])] Try.func74 rfl rfl fun K hK => ?_
  refine g_seq ?_
  refine g_run (by kernel_rfl) [(0, .d)] rfl ?_
  refine r_d rfl rfl rfl (s_assign rfl rfl) ?_
  refine r_end ?_
  refine g_seq ?_
  refine g_seq ?_
  refine g_run (by kernel_rfl) [(0, .d), (1, .d), (2, .d)] rfl ?_
  refine r_d rfl rfl rfl (s_move rfl rfl) ?_
  refine r_d rfl rfl rfl (m_len (f := enc_S_api_Instr) s_a0 rfl el_L_api_Instr rfl (asl rfl)) ?_
  refine r_d rfl rfl rfl (s_move rfl rfl) ?_
  refine r_end ?_
  obtain ⟨kk0, hkk0, hr⟩ := exK (fun k => lf_slices_IndexFunc_s8_L0 k s_a0 0) hr
  refine g_len 0 rfl (asl rfl) fun hla0 => ?_
  simp only [List.length_map] at hla0
  refine g_blockJ (fun env σ => env = [] ∧ σ = [] ∧ kk0 = some res) ?_ (fun HK0 => ?_)
  ·
   rintro _ _ ⟨rfl, rfl, hr⟩
   rw [hkk0] at hr
   refine g_seq ?_
   refine g_run (by kernel_rfl) [(0, .d)] rfl ?_
   refine r_d rfl rfl rfl (s_assign rfl rfl) ?_
   refine r_end ?_
   obtain rfl := Option.some.inj hr
   refine g_ret Try.func74 _ (.cons (resTmp rfl (Wk.refl _)) .nil) ?_
   rfl
  ·
   refine g_sub [(0, .lst (s_a0.map enc_S_api_Instr)), (1, .clo (.func 51) [] []), (7, .int .i64 (s_a0.length : Int)), (8, .int .i64 ((0 : Nat) : Int))] (Sub.cons' rfl (Sub.cons' rfl (Sub.cons' rfl (Sub.cons' rfl (Sub.nil _))))) ?_
   refine g_loop (fun n env σ => ∃ (i_1 : Nat), (n = s_a0.length - i_1) ∧ (env = [(0, .lst (s_a0.map enc_S_api_Instr)), (1, .clo (.func 51) [] []), (7, .int .i64 (s_a0.length : Int)), (8, .int .i64 (i_1 : Int))]) ∧ (σ = []) ∧ (i_1 ≤ s_a0.length) ∧ (lf_slices_IndexFunc_s8_L0 kk0 (s_a0.drop i_1) i_1 = some res)) _ ⟨0, rfl, rfl, rfl, Nat.zero_le _, hr⟩ ?_
   rintro n _ _ ⟨i_1, rfl, rfl, rfl, hi0, hr⟩ IH0
   rcases listStep s_a0 i_1 hi0 with ⟨ht0, hd0, he0⟩ | ⟨q_2, ht0, hd0, hq0, hlt0⟩
   ·
    rw [hd0, lf_slices_IndexFunc_s8_L0] at hr
    refine g_seq ?_
    refine g_run (by kernel_rfl) [(0, .d)] rfl ?_
    refine r_d rfl rfl rfl (s_cmp rfl rfl rfl rfl) ?_
    refine r_end ?_
    refine g_seq ?_
    refine g_known 9 false rfl ht0 ?_
    refine g_condF rfl ?_
    refine g_exit rfl ?_
    refine g_sub [] (Sub.nil _) ?_
    exact HK0 _ _ ⟨rfl, rfl, hr⟩
   ·
    rw [hd0, lf_slices_IndexFunc_s8_L0] at hr
    refine g_seq ?_
    refine g_run (by kernel_rfl) [(0, .d)] rfl ?_
    refine r_d rfl rfl rfl (s_cmp rfl rfl rfl rfl) ?_
    refine r_end ?_
    refine g_seq ?_
    refine g_known 9 true rfl ht0 ?_
    refine g_condT rfl ?_
    refine g_skip ?_
    refine g_seq ?_
    refine g_block ?_
    refine g_seq ?_
    refine g_run (by kernel_rfl) [(0, .d), (1, .d)] rfl ?_
    refine r_d rfl rfl rfl (s_move rfl rfl) ?_
    refine r_d rfl rfl rfl (s_assign rfl rfl) ?_
    refine r_end ?_
    refine g_seq ?_
    refine g_run (by kernel_rfl) [(0, .d), (1, .d), (2, .d), (3, .d), (4, .d), (5, .d)] rfl ?_
    refine r_d rfl rfl rfl (s_move rfl rfl) ?_
    refine r_d rfl rfl rfl (s_move rfl rfl) ?_
    refine r_d rfl rfl rfl (s_move rfl rfl) ?_
    refine r_d rfl rfl rfl (m_index (f := enc_S_api_Instr) s_a0 rfl el_L_api_Instr rfl (asl rfl) rfl hq0 sz_S_api_Instr rfl) ?_
    refine r_d rfl rfl rfl (s_load rfl rfl (by exact ty_api_Instr) (sz_S_api_Instr _)) ?_
    obtain ⟨r_3, hr_3, hr⟩ := bindS hr
    refine r_d rfl rfl rfl (s_callVD rfl rfl cl_instr_Check_1 (.cons rfl (Wk.refl _) .nil) rfl (lg_instr_Check_1 _ _ hr_3)) ?_
    refine r_end ?_
    refine g_sB 16 rfl hr (fun h16_3 hr => ?_) (fun h16_3 hr => ?_)
    ·
     refine g_condT rfl ?_
     refine g_seq ?_
     refine g_run (by kernel_rfl) [(0, .d), (1, .d)] rfl ?_
     refine r_d rfl rfl rfl (s_move rfl rfl) ?_
     refine r_d rfl rfl rfl (s_assign rfl rfl) ?_
     refine r_end ?_
     obtain rfl := Option.some.inj hr
     refine g_ret Try.func74 _ (.cons (resTmp rfl (Wk.refl _)) .nil) ?_
     rfl
    ·
     refine g_condF rfl ?_
     refine g_skip ?_
     refine g_inBlock ?_
     refine g_run (by kernel_rfl) [(0, .d), (1, .d)] rfl ?_
     refine r_d rfl rfl rfl (s_ar (r := ((i_1 + 1 : Nat) : Int)) rfl rfl rfl (by simp [iar]) (by omega)) ?_
     refine r_d rfl rfl rfl (s_move rfl rfl) ?_
     refine r_end ?_
     refine g_sub [(0, .lst (s_a0.map enc_S_api_Instr)), (1, .clo (.func 51) [] []), (7, .int .i64 (s_a0.length : Int)), (8, .int .i64 ((i_1 + 1 : Nat) : Int))] (Sub.cons' rfl (Sub.cons' rfl (Sub.cons' rfl (Sub.cons' rfl (Sub.nil _))))) ?_
     exact IH0 _ _ _ (by omega) ⟨(i_1 + 1), rfl, rfl, rfl, (by omega), hr⟩

noncomputable def lf_slices_ContainsFunc_s6 (s_a0 : (List S_api_Instr)) : Option (Bool) :=
  ((lf_slices_IndexFunc_s8 s_a0).bind fun r_1 =>
  some ((decide (r_1 ≥ (0 : Int)))))

set_option maxHeartbeats 1000000 in
theorem lg_slices_ContainsFunc_s6 (s_a0 : (List S_api_Instr)) (res : Bool) (hr : lf_slices_ContainsFunc_s6 s_a0 = some res) : Gives Try.prog 50 [.lst (s_a0.map enc_S_api_Instr), .clo (.func 51) [] []] (.bool res) := by
  unfold lf_slices_ContainsFunc_s6 at hr
  refine spec_env [(0, .lst (s_a0.map enc_S_api_Instr)), (1, .clo (.func 51) [] [])] Try.func50 rfl rfl fun K hK => ?_
  refine g_seq ?_
  refine g_run (by kernel_rfl) [(0, .d)] rfl ?_
  refine r_d rfl rfl rfl (s_assign rfl rfl) ?_
  refine r_end ?_
  refine g_seq ?_
  refine g_run (by kernel_rfl) [(0, .d), (1, .d), (2, .d), (3, .d), (4, .d)] rfl ?_
  refine r_d rfl rfl rfl (s_move rfl rfl) ?_
  refine r_d rfl rfl rfl (s_move rfl rfl) ?_
  obtain ⟨r_1, hr_1, hr⟩ := bindS hr
  refine r_d rfl rfl rfl (s_callD rfl cl_slices_IndexFunc_api_Instr_api_Instr (.cons rfl (Wk.refl _) (.cons rfl (Wk.refl _) .nil)) (lg_slices_IndexFunc_s8 _ _ hr_1)) ?_
  refine r_d rfl rfl rfl (s_cmp rfl rfl rfl rfl) ?_
  refine r_d rfl rfl rfl (s_assign rfl rfl) ?_
  refine r_end ?_
  obtain rfl := Option.some.inj hr
  refine g_ret Try.func50 _ (.cons (resTmp rfl (Wk.refl _)) .nil) ?_
  rfl

noncomputable def lf_Pinstr_set_first_s1_L0 (k : Option (Bool × Bool × Bool × Bool × Bool)) (c_0_0 : Bool) (c_0_1 : Bool) (c_0_2 : Bool) (c_0_3 : Bool) : Nat → Int → Option (Bool × Bool × Bool × Bool × Bool)
  | 0, t7_1 =>
  k
  | rest + 1, t7_1 =>
  ((getI [c_0_0, c_0_1, c_0_2, c_0_3] t7_1).bind fun q_2 =>
  (bif (!q_2) then
  some (false, c_0_0, c_0_1, c_0_2, c_0_3)
  else
  (lf_Pinstr_set_first_s1_L0 k c_0_0 c_0_1 c_0_2 c_0_3 rest (t7_1 + 1))))
noncomputable def lf_Pinstr_set_first_s1 (n_a1 : Int) (c_0_0 : Bool) (c_0_1 : Bool) (c_0_2 : Bool) (c_0_3 : Bool) : Option (Bool × Bool × Bool × Bool × Bool) :=
  (lf_Pinstr_set_first_s1_L0 (some (true, c_0_0, c_0_1, c_0_2, c_0_3)) c_0_0 c_0_1 c_0_2 c_0_3 (n_a1 - 0 : Int).toNat 0)

set_option maxHeartbeats 1000000 in
theorem lg_Pinstr_set_first_s1 (n_a1 : Int) (c_0_0 : Bool) (c_0_1 : Bool) (c_0_2 : Bool) (c_0_3 : Bool) (b_o0 : Nat) (res : Bool × Bool × Bool × Bool × Bool) (hr : lf_Pinstr_set_first_s1 n_a1 c_0_0 c_0_1 c_0_2 c_0_3 = some res) : Spec Try.prog 75 [.ref b_o0 0 [], .int .i64 n_a1] [.cell b_o0 (.agg [.bool c_0_0, .bool c_0_1, .bool c_0_2, .bool c_0_3])] (fun d σ => d = .bool res.1 ∧ σ = [.cell b_o0 (.agg [.bool res.2.1, .bool res.2.2.1, .bool res.2.2.2.1, .bool res.2.2.2.2])]) := by
  unfold lf_Pinstr_set_first_s1 at hr
  refine spec_env [(0, .ref b_o0 0 []), (1, .int .i64 n_a1)] Try.func75 rfl rfl fun K hK => ?_
  refine g_seq ?_
  refine g_run (by kernel_rfl) [(0, .d)] rfl ?_
  refine r_d rfl rfl rfl (s_assign rfl rfl) ?_
  refine r_end ?_
  refine g_seq ?_
  refine g_seq ?_
  refine g_run (by kernel_rfl) [(0, .d), (1, .d)] rfl ?_
  refine r_d rfl rfl rfl (s_move rfl rfl) ?_
  refine r_d rfl rfl rfl (s_move rfl rfl) ?_
  refine r_end ?_
  obtain ⟨kk0, hkk0, hr⟩ := exK (fun k => lf_Pinstr_set_first_s1_L0 k c_0_0 c_0_1 c_0_2 c_0_3 (n_a1 - 0 : Int).toNat 0) hr
  refine g_int 1 rfl fun hla0 => ?_
  refine g_blockJ (fun env σ => env = [] ∧ σ = [.cell b_o0 (.agg [.bool c_0_0, .bool c_0_1, .bool c_0_2, .bool c_0_3])] ∧ kk0 = some res) ?_ (fun HK0 => ?_)
  ·
   rintro _ _ ⟨rfl, rfl, hr⟩
   rw [hkk0] at hr
   refine g_seq ?_
   refine g_run (by kernel_rfl) [(0, .d)] rfl ?_
   refine r_d rfl rfl rfl (s_assign rfl rfl) ?_
   refine r_end ?_
   obtain rfl := Option.some.inj hr
   refine g_ret Try.func75 _ (.cons (resTmp rfl (Wk.refl _)) .nil) ?_
   exact ⟨rfl, rfl⟩
  ·
   refine g_sub [(0, .ref b_o0 0 []), (6, .int .i64 n_a1), (7, .int .i64 0)] (Sub.cons' rfl (Sub.cons' rfl (Sub.cons' rfl (Sub.nil _)))) ?_
   refine g_loop (fun n env σ => ∃ (t7_1 : Int) (m0 : Nat), (m0 = n) ∧ (env = [(0, .ref b_o0 0 []), (6, .int .i64 n_a1), (7, .int .i64 t7_1)]) ∧ (σ = [.cell b_o0 (.agg [.bool c_0_0, .bool c_0_1, .bool c_0_2, .bool c_0_3])]) ∧ (m0 = (n_a1 - t7_1 : Int).toNat) ∧ (lf_Pinstr_set_first_s1_L0 kk0 c_0_0 c_0_1 c_0_2 c_0_3 m0 t7_1 = some res)) _ ⟨0, _, rfl, rfl, rfl, rfl, hr⟩ ?_
   rintro n _ _ ⟨t7_1, m0, rfl, rfl, rfl, hi0, hr⟩ IH0
   refine g_int 7 rfl fun hb0 => ?_
   rcases cntStep t7_1 n_a1 m0 hi0 with ⟨hm0, ht0⟩ | ⟨m0', hm0, ht0, hi0', hlt0⟩
   ·
    rw [hm0, lf_Pinstr_set_first_s1_L0] at hr
    refine g_seq ?_
    refine g_run (by kernel_rfl) [(0, .d)] rfl ?_
    refine r_d rfl rfl rfl (s_cmp rfl rfl rfl rfl) ?_
    refine r_end ?_
    refine g_seq ?_
    refine g_known 8 false rfl ht0 ?_
    refine g_condF rfl ?_
    refine g_exit rfl ?_
    refine g_sub [] (Sub.nil _) ?_
    exact HK0 _ _ ⟨rfl, rfl, hr⟩
   ·
    rw [hm0, lf_Pinstr_set_first_s1_L0] at hr
    refine g_seq ?_
    refine g_run (by kernel_rfl) [(0, .d)] rfl ?_
    refine r_d rfl rfl rfl (s_cmp rfl rfl rfl rfl) ?_
    refine r_end ?_
    refine g_seq ?_
    refine g_int 6 rfl fun hbN6 => ?_
    refine g_known 8 true rfl ht0 ?_
    refine g_condT rfl ?_
    refine g_skip ?_
    refine g_seq ?_
    refine g_block ?_
    refine g_seq ?_
    refine g_run (by kernel_rfl) [(0, .d), (1, .d)] rfl ?_
    refine r_d rfl rfl rfl (s_move rfl rfl) ?_
    refine r_d rfl rfl rfl (s_assign rfl rfl) ?_
    refine r_end ?_
    refine g_seq ?_
    refine g_run (by kernel_rfl) [(0, .d), (1, .d), (2, .d), (3, .d), (4, .r), (5, .d)] rfl ?_
    refine r_d rfl rfl rfl (s_move rfl rfl) ?_
    refine r_d rfl rfl rfl (s_move rfl rfl) ?_
    refine r_d rfl rfl rfl (s_nilCheckR rfl rfl) ?_
    obtain ⟨q_2, hq_2, hr⟩ := bindS hr
    refine r_d rfl rfl rfl (s_indexB4 rfl are_instr_set rfl rfl hq_2) ?_
    refine r_r rfl rfl rfl (t_loadRef rfl rfl (.head _) (subB4 hq_2) (offB4 hq_2) (by exact ty_bool) rfl) ?_
    refine r_d rfl rfl rfl (s_not rfl rfl) ?_
    refine r_end ?_
    refine g_sB 15 rfl hr (fun h15_2 hr => ?_) (fun h15_2 hr => ?_)
    ·
     refine g_condT rfl ?_
     refine g_seq ?_
     refine g_run (by kernel_rfl) [(0, .d)] rfl ?_
     refine r_d rfl rfl rfl (s_assign rfl rfl) ?_
     refine r_end ?_
     obtain rfl := Option.some.inj hr
     refine g_ret Try.func75 _ (.cons (resTmp rfl (Wk.refl _)) .nil) ?_
     exact ⟨rfl, rfl⟩
    ·
     refine g_condF rfl ?_
     refine g_skip ?_
     refine g_inBlock ?_
     refine g_run (by kernel_rfl) [(0, .d), (1, .d)] rfl ?_
     refine r_d rfl rfl rfl (s_ar (r := t7_1 + 1) rfl rfl rfl rfl (by omega)) ?_
     refine r_d rfl rfl rfl (s_move rfl rfl) ?_
     refine r_end ?_
     refine g_sub [(0, .ref b_o0 0 []), (6, .int .i64 n_a1), (7, .int .i64 (t7_1 + 1))] (Sub.cons' rfl (Sub.cons' rfl (Sub.cons' rfl (Sub.nil _)))) ?_
     exact IH0 _ _ _ (by omega) ⟨(t7_1 + 1), _, rfl, rfl, rfl, hi0', hr⟩

noncomputable def lf_instr_formed_L0 (k : (Bool) → (Bool) → (Int) → Option (Bool)) (b_a0 : S_api_Block) : List S_api_Instr → Bool → Bool → Int → Int → Bool → Bool → Bool → Bool → (List (Int × Bool)) → Option (Bool)
  | [], removed_4, kept_5, stage_6, last_7, bound_9, bound_10, bound_11, bound_12, mm_13 =>
  (k removed_4 kept_5 stage_6)
  | q_20 :: rest, removed_4, kept_5, stage_6, last_7, bound_9, bound_10, bound_11, bound_12, mm_13 =>
  (bif (q_20.f0_Op == (6 : Int)) then
  ((getI [bound_9, bound_10, bound_11, bound_12] q_20.f1_A).bind fun q_23 =>
  (bif (!q_23) then
  some (false)
  else
  (bif (decide (q_20.f1_A ≤ last_7)) then
  some (false)
  else
  (bif removed_4 then
  (bif (decide ((1 : Int) < stage_6)) then
  some (false)
  else
  (bif ((1 : Int) == stage_6) then
  (bif ((1 : Int) == (2 : Int)) then
  some (false)
  else
  (bif ((1 : Int) == (3 : Int)) then
  some (false)
  else
  (bif ((1 : Int) == (5 : Int)) then
  some (false)
  else
  (lf_instr_formed_L0 k b_a0 rest true kept_5 1 q_20.f1_A bound_9 bound_10 bound_11 bound_12 mm_13))))
  else
  (lf_instr_formed_L0 k b_a0 rest true kept_5 1 q_20.f1_A bound_9 bound_10 bound_11 bound_12 mm_13)))
  else
  (bif (decide ((1 : Int) < stage_6)) then
  some (false)
  else
  (bif ((1 : Int) == stage_6) then
  (bif ((1 : Int) == (2 : Int)) then
  some (false)
  else
  (bif ((1 : Int) == (3 : Int)) then
  some (false)
  else
  (bif ((1 : Int) == (5 : Int)) then
  some (false)
  else
  (lf_instr_formed_L0 k b_a0 rest (q_20.f1_A == b_a0.f0_Occ.f1_Head) kept_5 1 q_20.f1_A bound_9 bound_10 bound_11 bound_12 mm_13))))
  else
  (lf_instr_formed_L0 k b_a0 rest (q_20.f1_A == b_a0.f0_Occ.f1_Head) kept_5 1 q_20.f1_A bound_9 bound_10 bound_11 bound_12 mm_13)))))))
  else
  (bif (q_20.f0_Op == (7 : Int)) then
  (bif (decide ((2 : Int) < stage_6)) then
  some (false)
  else
  (bif ((2 : Int) == stage_6) then
  (bif ((2 : Int) == (2 : Int)) then
  some (false)
  else
  (bif ((2 : Int) == (3 : Int)) then
  some (false)
  else
  (bif ((2 : Int) == (5 : Int)) then
  some (false)
  else
  (lf_instr_formed_L0 k b_a0 rest removed_4 true 2 last_7 bound_9 bound_10 bound_11 bound_12 mm_13))))
  else
  (lf_instr_formed_L0 k b_a0 rest removed_4 true 2 last_7 bound_9 bound_10 bound_11 bound_12 mm_13)))
  else
  (bif (q_20.f0_Op == (8 : Int)) then
  ((lf_Pinstr_set_first_s1 q_20.f2_B bound_9 bound_10 bound_11 bound_12).bind fun r_44 =>
  (bif (!r_44.1) then
  some (false)
  else
  (bif (!((mget mm_13 q_20.f2_B).getD false)) then
  some (false)
  else
  (bif (q_20.f1_A != b_a0.f0_Occ.f0_Rule) then
  some (false)
  else
  (bif (decide ((3 : Int) < stage_6)) then
  some (false)
  else
  (bif ((3 : Int) == stage_6) then
  (bif ((3 : Int) == (2 : Int)) then
  some (false)
  else
  (bif ((3 : Int) == (3 : Int)) then
  some (false)
  else
  (bif ((3 : Int) == (5 : Int)) then
  some (false)
  else
  (lf_instr_formed_L0 k b_a0 rest removed_4 kept_5 3 last_7 r_44.2.1 r_44.2.2.1 r_44.2.2.2.1 r_44.2.2.2.2 mm_13))))
  else
  (lf_instr_formed_L0 k b_a0 rest removed_4 kept_5 3 last_7 r_44.2.1 r_44.2.2.1 r_44.2.2.2.1 r_44.2.2.2.2 mm_13)))))))
  else
  (bif (q_20.f0_Op == (9 : Int)) then
  (bif (decide ((4 : Int) < stage_6)) then
  some (false)
  else
  (bif ((4 : Int) == stage_6) then
  (bif ((4 : Int) == (2 : Int)) then
  some (false)
  else
  (bif ((4 : Int) == (3 : Int)) then
  some (false)
  else
  (bif ((4 : Int) == (5 : Int)) then
  some (false)
  else
  (lf_instr_formed_L0 k b_a0 rest removed_4 kept_5 4 last_7 bound_9 bound_10 bound_11 bound_12 mm_13))))
  else
  (lf_instr_formed_L0 k b_a0 rest removed_4 kept_5 4 last_7 bound_9 bound_10 bound_11 bound_12 mm_13)))
  else
  (bif (q_20.f0_Op == (10 : Int)) then
  (bif (q_20.f1_A != b_a0.f0_Occ.f0_Rule) then
  some (false)
  else
  (bif (decide ((5 : Int) < stage_6)) then
  some (false)
  else
  (bif ((5 : Int) == stage_6) then
  (bif ((5 : Int) == (2 : Int)) then
  some (false)
  else
  (bif ((5 : Int) == (3 : Int)) then
  some (false)
  else
  (bif ((5 : Int) == (5 : Int)) then
  some (false)
  else
  (lf_instr_formed_L0 k b_a0 rest removed_4 kept_5 5 last_7 bound_9 bound_10 bound_11 bound_12 mm_13))))
  else
  (lf_instr_formed_L0 k b_a0 rest removed_4 kept_5 5 last_7 bound_9 bound_10 bound_11 bound_12 mm_13))))
  else
  (bif (q_20.f0_Op == (1 : Int)) then
  ((getI [bound_9, bound_10, bound_11, bound_12] q_20.f1_A).bind fun q_67 =>
  (bif (!q_67) then
  some (false)
  else
  (bif (decide ((0 : Int) < stage_6)) then
  some (false)
  else
  (bif ((0 : Int) == stage_6) then
  (bif ((0 : Int) == (2 : Int)) then
  some (false)
  else
  (bif ((0 : Int) == (3 : Int)) then
  some (false)
  else
  (bif ((0 : Int) == (5 : Int)) then
  some (false)
  else
  (lf_instr_formed_L0 k b_a0 rest removed_4 kept_5 0 last_7 bound_9 bound_10 bound_11 bound_12 mm_13))))
  else
  (lf_instr_formed_L0 k b_a0 rest removed_4 kept_5 0 last_7 bound_9 bound_10 bound_11 bound_12 mm_13)))))
  else
  (bif (q_20.f0_Op == (4 : Int)) then
  ((getI [bound_9, bound_10, bound_11, bound_12] q_20.f1_A).bind fun q_75 =>
  (bif (!q_75) then
  some (false)
  else
  ((getI [bound_9, bound_10, bound_11, bound_12] q_20.f2_B).bind fun q_77 =>
  (bif (!q_77) then
  some (false)
  else
  (bif (decide ((0 : Int) < stage_6)) then
  some (false)
  else
  (bif ((0 : Int) == stage_6) then
  (bif ((0 : Int) == (2 : Int)) then
  some (false)
  else
  (bif ((0 : Int) == (3 : Int)) then
  some (false)
  else
  (bif ((0 : Int) == (5 : Int)) then
  some (false)
  else
  (lf_instr_formed_L0 k b_a0 rest removed_4 kept_5 0 last_7 bound_9 bound_10 bound_11 bound_12 mm_13))))
  else
  (lf_instr_formed_L0 k b_a0 rest removed_4 kept_5 0 last_7 bound_9 bound_10 bound_11 bound_12 mm_13)))))))
  else
  (bif (q_20.f0_Op == (3 : Int)) then
  ((getI [bound_9, bound_10, bound_11, bound_12] q_20.f1_A).bind fun q_85 =>
  (bif q_85 then
  some (false)
  else
  (bif (decide ((0 : Int) < stage_6)) then
  some (false)
  else
  (bif ((0 : Int) == stage_6) then
  (bif ((0 : Int) == (2 : Int)) then
  some (false)
  else
  (bif ((0 : Int) == (3 : Int)) then
  some (false)
  else
  (bif ((0 : Int) == (5 : Int)) then
  some (false)
  else
  (lf_instr_formed_L0 k b_a0 rest removed_4 kept_5 0 last_7 (bif q_20.f1_A == 0 then true else bound_9) (bif q_20.f1_A == 1 then true else bound_10) (bif q_20.f1_A == 2 then true else bound_11) (bif q_20.f1_A == 3 then true else bound_12) mm_13))))
  else
  (lf_instr_formed_L0 k b_a0 rest removed_4 kept_5 0 last_7 (bif q_20.f1_A == 0 then true else bound_9) (bif q_20.f1_A == 1 then true else bound_10) (bif q_20.f1_A == 2 then true else bound_11) (bif q_20.f1_A == 3 then true else bound_12) mm_13)))))
  else
  (bif (q_20.f0_Op == (5 : Int)) then
  ((lf_Pinstr_set_first_s1 q_20.f2_B bound_9 bound_10 bound_11 bound_12).bind fun r_93 =>
  (bif (!r_93.1) then
  some (false)
  else
  (bif (q_20.f1_A != b_a0.f0_Occ.f0_Rule) then
  some (false)
  else
  ((mputO mm_13 q_20.f2_B true).bind fun mm_96 =>
  (bif (decide ((0 : Int) < stage_6)) then
  some (false)
  else
  (bif ((0 : Int) == stage_6) then
  (bif ((0 : Int) == (2 : Int)) then
  some (false)
  else
  (bif ((0 : Int) == (3 : Int)) then
  some (false)
  else
  (bif ((0 : Int) == (5 : Int)) then
  some (false)
  else
  (lf_instr_formed_L0 k b_a0 rest removed_4 kept_5 0 last_7 r_93.2.1 r_93.2.2.1 r_93.2.2.2.1 r_93.2.2.2.2 mm_96))))
  else
  (lf_instr_formed_L0 k b_a0 rest removed_4 kept_5 0 last_7 r_93.2.1 r_93.2.2.1 r_93.2.2.2.1 r_93.2.2.2.2 mm_96)))))))
  else
  (bif (decide ((0 : Int) < stage_6)) then
  some (false)
  else
  (bif ((0 : Int) == stage_6) then
  (bif ((0 : Int) == (2 : Int)) then
  some (false)
  else
  (bif ((0 : Int) == (3 : Int)) then
  some (false)
  else
  (bif ((0 : Int) == (5 : Int)) then
  some (false)
  else
  (lf_instr_formed_L0 k b_a0 rest removed_4 kept_5 0 last_7 bound_9 bound_10 bound_11 bound_12 mm_13))))
  else
  (lf_instr_formed_L0 k b_a0 rest removed_4 kept_5 0 last_7 bound_9 bound_10 bound_11 bound_12 mm_13))))))))))))
noncomputable def lf_instr_formed (b_a0 : S_api_Block) : Option (Bool) :=
  ((getI [false, false, false, false] b_a0.f0_Occ.f1_Head).bind fun q_2 =>
  (lf_instr_formed_L0 (fun removed_14 kept_15 stage_16 =>
  (bif (stage_16 == (5 : Int)) then
  (bif (removed_14 != b_a0.f0_Occ.f2_Kept) then
  (bif (!kept_15) then
  some (true)
  else
  some (b_a0.f0_Occ.f2_Kept))
  else
  some (false))
  else
  some (false))) b_a0 b_a0.f1_Code false false 0 (-1) (bif b_a0.f0_Occ.f1_Head == 0 then true else false) (bif b_a0.f0_Occ.f1_Head == 1 then true else false) (bif b_a0.f0_Occ.f1_Head == 2 then true else false) (bif b_a0.f0_Occ.f1_Head == 3 then true else false) []))

end Go.Proofs.Ytbdhjkneoandiaa

