/-
  Texts of the seat, merged.
-/
import Derived.Test.YtdoljfkjdfaakaaGreatLCA
import Derived.Test.YtdoljfkjdfaakaaGreatLCB
import Derived.Test.YtdoljfkjdfaakaaGreatLCC
import Derived.Test.YtdoljfkjdfaakaaGreatLCD
import Derived.Test.YtdoljfkjdfaakaaGreatLCE
import Derived.Test.YtdoljfkjdfaakaaGreatLCF
import Derived.Test.YtdoljfkjdfaakaaGreatChecked
import Derived.WalkKit
import Derived.Lib.Hide
import Derived.Lib.AppendStr
import Derived.Deep.AppendLies
import Derived.Deep.AppendSrc
import Derived.Deep.Draws
import Derived.Deep.QuietTactic
import Derived.BigQuiet
import Derived.Deep.RegionWith
import Derived.Maps.AppendAt
import Derived.WalkSpells
import Derived.Orders
import Derived.Deep.Slices
import Derived.Deep.Fields
import Derived.ChangeArms
import Derived.Lib.OthersKept
import Derived.Lib.TrimU
import Derived.Lib.IndexAny
import Derived.Deep.LoopGhost
import Derived.Lib.Bytealg
import Derived.RangeFuncBox
import Derived.RangeFuncNested
import Derived.RangeFuncBound
import Derived.RangeFuncCalls
import Derived.RangeFuncLeaves
import Derived.Shelf.Abstract
import Derived.OwnWalkIn
import Derived.TacticsInMore
import Derived.LoopNIn
import Derived.LoopIn
import Derived.RangeFuncWrites
import Derived.Maps.OwnIn
import Derived.Maps.Views
import Derived.Laws.OwnMore
import Derived.Maps.OwnSet
import Derived.Laws.IdiomStrings
import Derived.Test.YtdoljfkjdfaakaaGreatRows
import Derived.ProofKit
import Derived.OpenShut
import Derived.Carry
import Derived.OrdersIn
import Derived.Great.BuildSlice
import Derived.ArgAppend
import Derived.Laws.MakeOwn
import Derived.Laws.Cover3
import Derived.Laws.CopyRow
import Derived.MapKept
import Derived.Maps.RangeRun
import Derived.DeepKeys5
import Derived.WideKeyRuns
import Derived.RangeFuncOwn
import Derived.Defers
import Derived.Recover
import Derived.Tactics
import Derived.Tactics2
set_option linter.unusedVariables false
set_option linter.unusedSimpArgs false
set_option linter.unnecessarySimpa false
set_option linter.all false

namespace Go.Proofs.YtdoljfkjdfaakaaGreat
set_option maxRecDepth 100000
open Go.RowKit

theorem cmpS_eq (a b : ByteArray) : cmpS a b = cmpB a.toList b.toList := rfl
theorem cmpL_self : ∀ l : List T, cmpL l l = 0
  | [] => by simp [cmpL]
  | t :: l => by rw [cmpL_cons, cmp_self, cmpL_self l]; rfl
end Go.Proofs.YtdoljfkjdfaakaaGreat


namespace Go.Proofs.YtdoljfkjdfaakaaGreat
set_option maxRecDepth 100000

theorem zag_zig (k : Int) : zag (zig k) = k := by
  unfold zag zig; split <;> split <;> omega
end Go.Proofs.YtdoljfkjdfaakaaGreat


namespace Go.Proofs.YtdoljfkjdfaakaaGreat
set_option maxRecDepth 100000

theorem rawM_of (k u : Nat) (r : List UInt8) (hu : u * 128 ^ k < 18446744073709551616) (hk : k ≤ 9) (h0 : 0 < k → 0 < u) : rawM k (enc u ++ r) = (u, (enc u).length, 0) := by
  induction hm : 9 - k generalizing k u with
  | zero =>
    obtain rfl : k = 9 := by omega
    have hu1 : u < 2 := by omega
    rw [enc_small (by omega)]
    have := h0 (by omega)
    obtain rfl : u = 1 := by omega
    simp [rawM]
  | succ m ih =>
    rcases Nat.lt_or_ge u 128 with hs | hs
    · rw [enc_small hs]
      have e1 : (UInt8.ofNat u).toNat = u := by simp only [UInt8.toNat_ofNat']; omega
      simp only [List.cons_append, List.nil_append, rawM, e1, List.length_cons, List.length_nil]
      rw [if_neg (by omega), if_pos hs, if_neg (by omega)]
    · rw [enc_big hs]
      have e1 : (UInt8.ofNat (u % 128 + 128)).toNat = u % 128 + 128 := by simp only [UInt8.toNat_ofNat']; omega
      have hd : u / 128 * 128 ^ (k + 1) < 18446744073709551616 := by
        have : u / 128 * 128 ^ (k + 1) ≤ u * 128 ^ k := by
          rw [Nat.pow_succ, Nat.mul_comm (128 ^ k) 128, ← Nat.mul_assoc]
          exact Nat.mul_le_mul_right _ (by omega)
        omega
      have hih := ih (k + 1) (u / 128) hd (by omega) (by omega) (by omega)
      simp only [List.cons_append, rawM, e1, hih, List.length_cons]
      rw [if_neg (by omega), if_neg (by omega)]
      simp
      omega

end Go.Proofs.YtdoljfkjdfaakaaGreat


namespace Go.Proofs.YtdoljfkjdfaakaaGreat
set_option maxRecDepth 100000
open Go.RowKit

section
variable {P : Program} {o : Oper} {ρ : Operand → Option D} {d : D}

/-! ### numbers and strings -/
theorem s_cmpB {x y : Operand} {t t' : TypeId} {m n : Bool} (ho : o.op = .binOp .eql t x y t') (ht : P.underlying t = some .bool) (hx : ρ x = some (.bool m)) (hy : ρ y = some (.bool n)) : StepD P o ρ (.bool (m == n)) := stepD_of fun p a w h => by
  have h1 := h x (by rw [ho]; simp [Op.operands]) _ hx
  have h2 := h y (by rw [ho]; simp [Op.operands]) _ hy
  simp only [Rep] at h1 h2
  refine ⟨.bool (m == n), ?_, by simp only [Rep]⟩
  unfold execOp
  rw [ho]
  have e1 : eqGuard .eql t x y (.bool m) (.bool n) = pure () := rfl
  have e2 : binOp .eql t (.bool m) (.bool n) = (do pure (.bool (← Op.equal t (.bool m) (.bool n)))) := rfl
  simp [h1, h2, e1, e2, run_equal_bool w t m n ht]
/-! ### lists -/
end
end Go.Proofs.YtdoljfkjdfaakaaGreat


namespace Go.Proofs.YtdoljfkjdfaakaaGreat
set_option maxRecDepth 100000
open Go.RowKit

theorem r_known {m : Md} {P : Program} {X : Env → D → St → Prop} {f : FuncId} {fn : Func} {K : Ctx} {R : D → St → Prop} {k : List Item} {env : Env} {σ : St} {l : List Oper} {rest : List (Nat × Cls)} (s : Nat) (v : Bool) {b : Bool} (hs : lk env s = some (.bool b)) (hb : b = v) (h : Run P l.toArray X (GoesG m P f fn K R k) rest ((s, .bool v) :: env) σ) : Run P l.toArray X (GoesG m P f fn K R k) rest env σ := by
  subst hb
  cases b with
  | true => exact r_split s hs (fun _ => h) fun h' => by cases h'
  | false => exact r_split s hs (fun h' => by cases h') fun _ => h
theorem el_api_Binds : ElT Tryz.prog 41 116 5 64 := .of Tryz.underlying41 (by kernel_rfl) (by decide)
end Go.Proofs.YtdoljfkjdfaakaaGreat


namespace Go.Proofs.YtdoljfkjdfaakaaGreat
set_option maxRecDepth 100000
open Go.RowKit

theorem cl_constraintref19_Same : callee Tryz.prog 90 := ⟨_, _, Tryz.func90, rfl, by decide⟩
theorem cl_constraintref03_SameAtom : callee Tryz.prog 166 := ⟨_, _, Tryz.func166, rfl, by decide⟩
theorem cl_constraintref06_Same : callee Tryz.prog 91 := ⟨_, _, Tryz.func91, rfl, by decide⟩
theorem cl_constraintref03_Same : callee Tryz.prog 167 := ⟨_, _, Tryz.func167, rfl, by decide⟩
theorem cl_constraintref03_SameGoal : callee Tryz.prog 165 := ⟨_, _, Tryz.func165, rfl, by decide⟩
theorem cl_constraintref03_RightAtom : callee Tryz.prog 157 := ⟨_, _, Tryz.func157, rfl, by decide⟩
theorem cl_constraintref03_Right : callee Tryz.prog 126 := ⟨_, _, Tryz.func126, rfl, by decide⟩
theorem cl_constraintref03_Size : callee Tryz.prog 150 := ⟨_, _, Tryz.func150, rfl, by decide⟩
theorem cl_constraintref03_RightGoal : callee Tryz.prog 181 := ⟨_, _, Tryz.func181, rfl, by decide⟩
theorem cl_constraintlaw23_Goals : callee Tryz.prog 55 := ⟨_, _, Tryz.func55, rfl, by decide⟩
theorem cl_constraintlaw23_tiny : callee Tryz.prog 149 := ⟨_, _, Tryz.func149, rfl, by decide⟩
end Go.Proofs.YtdoljfkjdfaakaaGreat


namespace Go.Proofs.YtdoljfkjdfaakaaGreat
set_option maxRecDepth 100000
open Go.RowKit

theorem wr_eq {n : Int} (h : -9223372036854775808 ≤ n ∧ n < 9223372036854775808) : wr n = n := wrap64 h
theorem appO_eq {α : Type} {b : Nat} {l m : List α} (h : (l.length + m.length) * b ≤ 140737488355328) (h2 : l.length + m.length ≤ 9223372036854775807) : appO b l m = some (l ++ m) := by rw [appO, if_pos ⟨h, h2⟩]
section
variable {P : Program} {X : Env → D → St → Prop} {l : List Oper} {rest : List (Nat × Cls)} {env : Env} {σ : St} {f : FuncId} {fn : Func} {K : Ctx} {R : D → St → Prop} {k : List Item}
end

section
variable {P : Program} {o : Oper} {ρ : Operand → Option D} {d : D} {α : Type} {f : α → D}
end
end Go.Proofs.YtdoljfkjdfaakaaGreat


namespace Go.Proofs.YtdoljfkjdfaakaaGreat
set_option maxRecDepth 100000
open Go.RowKit

/-! ### maps as lists of pairs -/
section
variable {α β : Type} [DecidableEq α]
end
section
variable {P : Program} {o : Oper} {ρ : Operand → Option D} {α β : Type} [DecidableEq α] {key : α → D} {g : β → D}
end
/-! ### facts out of slots -/
section
variable {P : Program} {f : FuncId} {fn : Func} {K : Ctx} {R : D → St → Prop} {k : List Item} {env : Env} {σ : St}
theorem g_lenP {m : Md} (s : Nat) (path : List Nat) {d0 dx : D} {l : List D} (hs : lk env s = some (.ptr d0)) (hp : subD d0 path = some dx) (hl : AsL dx l) (h : l.length ≤ 9223372036854775807 → GoesG m P f fn K R k env σ) : GoesG m P f fn K R k env σ :=
  g_fact (fun p a w _ hr => by
    have h1 := hr s _ hs
    simp only [Rep] at h1
    obtain ⟨b, o, u, _, _, h2, _⟩ := h1
    obtain ⟨v, h3, _⟩ := subD_rep h2 hp
    obtain ⟨A, c, xs, _, g2, g3, _⟩ := hl.rep h3
    omega) h
theorem g_seqJ {m : Md} {a b : Code} (J : Env → St → Prop) (hJ : ∀ env σ, J env σ → GoesG m P f fn K R (.code b :: k) env σ) (h : (∀ env σ, J env σ → GoesG m P f fn K R (.code b :: k) env σ) → GoesG m P f fn K R (.code a :: .code b :: k) env σ) : GoesG m P f fn K R (.code (.seq a b) :: k) env σ := g_seq (h hJ)
end
end Go.Proofs.YtdoljfkjdfaakaaGreat


namespace Go.Proofs.YtdoljfkjdfaakaaGreat
set_option maxRecDepth 100000
open Go.RowKit

theorem x_rightT_eq (t : T) (h : wt t ≤ 1000000000) : x_rightT t = some (rightT t) := if_pos h

theorem x_sameT_eq (t : T) (u : T) (h : wt t ≤ 1000000000) : x_sameT t u = some (sameT t u) := if_pos h

theorem x_rightA_eq (a : At) (h : wtL a.ts ≤ 1000000000) : x_rightA a = some (rightA a) := if_pos h

theorem x_rightG_eq (a : Gl) (h : wtL a.ts ≤ 1000000000) : x_rightG a = some (rightG a) := if_pos h

theorem x_sameA_eq (a : At) (b : At) (h : wtL a.ts ≤ 1000000000) : x_sameA a b = some ((cmpA a b == 0)) := if_pos h

theorem x_sameG_eq (a : Gl) (b : Gl) (h : wtL a.ts ≤ 1000000000) : x_sameG a b = some (sameG a b) := if_pos h

theorem x_sizeT_eq (t : T) (h : wt t ≤ 1000000000) : x_sizeT t = some (((sizeT t : Nat) : Int)) := if_pos h

end Go.Proofs.YtdoljfkjdfaakaaGreat


namespace Go.Proofs.YtdoljfkjdfaakaaGreat
set_option maxRecDepth 100000
open Go.RowKit

theorem ofY_toY (l : List UInt8) : ofY (toY l) = l := by
  unfold toY ofY
  rw [List.map_map]
  conv => rhs; rw [← List.map_id l]
  refine List.map_congr_left fun x _ => ?_
  simp [Function.comp]
/-! ### the functions -/
section
variable (f : FuncId) (hf : ∀ (A : Option Addr) (c : Nat) (bs : List UInt8) (k : Int) (w : World), Rd w A (bs.map bv) → bs.length ≤ 1000000000 → -9223372036854775808 ≤ k → k < 9223372036854775808 → Calls Tryz.prog f #[.slice A bs.length c, .int .i64 k] w (Ret w (IsB w.heap.size (bs ++ enc (zig k)))))
include hf
end
section
variable (f : FuncId) (hf : ∀ (A : Option Addr) (c : Nat) (bs : List UInt8) (s : ByteArray) (w : World), Rd w A (bs.map bv) → bs.length ≤ 1000000000 → s.size ≤ 1000000000 → Calls Tryz.prog f #[.slice A bs.length c, .string s] w (Ret w (IsB w.heap.size (bs ++ (enc (zig s.size) ++ s.data.toList)))))
include hf
end
section
variable (f : FuncId) (hf : ∀ (A : Option Addr) (c : Nat) (bs : List UInt8) (x : Bool) (w : World), Rd w A (bs.map bv) → bs.length ≤ 1000000000 → Calls Tryz.prog f #[.slice A bs.length c, .bool x] w (Ret w (IsB w.heap.size (bs ++ [if x then 1 else 0]))))
include hf
end
end Go.Proofs.YtdoljfkjdfaakaaGreat


namespace Go.Proofs.YtdoljfkjdfaakaaGreat
set_option maxRecDepth 100000
open Go.RowKit
theorem fl_constraintref52_writer_0 : Fld Tryz.prog 88 0 0 := ⟨_, _, 1, Tryz.underlying88, rfl, rfl, by kernel_rfl, by decide⟩
theorem fl_constraintref52_writer_1 : Fld Tryz.prog 88 1 1 := ⟨_, _, 1, Tryz.underlying88, rfl, rfl, by kernel_rfl, by decide⟩
theorem bt_constraintref52_writer : BuildT Tryz.prog 88 [.lst [], .bool false] := .mk rfl (by kernel_rfl) Tryz.underlying88 (by kernel_rfl)
theorem cl_constraintlaw52_exampleHolds : callee Tryz.prog 10 := ⟨_, _, Tryz.func10, rfl, by decide⟩
theorem cl_constraintlaw52_small : callee Tryz.prog 16 := ⟨_, _, Tryz.func16, rfl, by decide⟩
theorem cl_constraintref52_Config : callee Tryz.prog 18 := ⟨_, _, Tryz.func18, rfl, by decide⟩
theorem cl_constraintref26_Same : callee Tryz.prog 20 := ⟨_, _, Tryz.func20, rfl, by decide⟩
theorem cl_Pconstraintref52_writer_num : callee Tryz.prog 41 := ⟨_, _, Tryz.func41, rfl, by decide⟩
theorem cl_Pconstraintref52_writer_text : callee Tryz.prog 42 := ⟨_, _, Tryz.func42, rfl, by decide⟩
theorem cl_Pconstraintref52_writer_bytes : callee Tryz.prog 45 := ⟨_, _, Tryz.func45, rfl, by decide⟩
theorem cl_constraintlaw52_goals : callee Tryz.prog 56 := ⟨_, _, Tryz.func56, rfl, by decide⟩
theorem cl_constraintlaw23_Parts : callee Tryz.prog 57 := ⟨_, _, Tryz.func57, rfl, by decide⟩
theorem cl_Pconstraintref52_writer_frame : callee Tryz.prog 71 := ⟨_, _, Tryz.func71, rfl, by decide⟩
theorem cl_Pconstraintref52_writer_atom : callee Tryz.prog 72 := ⟨_, _, Tryz.func72, rfl, by decide⟩
theorem cl_Pconstraintref52_writer_term : callee Tryz.prog 73 := ⟨_, _, Tryz.func73, rfl, by decide⟩
theorem cl_Pconstraintref52_writer_nums : callee Tryz.prog 74 := ⟨_, _, Tryz.func74, rfl, by decide⟩
theorem cl_Pconstraintref52_writer_flag : callee Tryz.prog 75 := ⟨_, _, Tryz.func75, rfl, by decide⟩
theorem cl_constraintref26_sameFrames : callee Tryz.prog 89 := ⟨_, _, Tryz.func89, rfl, by decide⟩
theorem cl_constraintref21_Same : callee Tryz.prog 92 := ⟨_, _, Tryz.func92, rfl, by decide⟩
theorem cl_constraintref01_PutInt : callee Tryz.prog 136 := ⟨_, _, Tryz.func136, rfl, by decide⟩
theorem cl_constraintref01_PutText : callee Tryz.prog 137 := ⟨_, _, Tryz.func137, rfl, by decide⟩
theorem cl_Pconstraintref52_writer_goal : callee Tryz.prog 138 := ⟨_, _, Tryz.func138, rfl, by decide⟩
theorem cl_Pconstraintref52_writer_terms : callee Tryz.prog 158 := ⟨_, _, Tryz.func158, rfl, by decide⟩
theorem cl_constraintref01_PutBool : callee Tryz.prog 159 := ⟨_, _, Tryz.func159, rfl, by decide⟩
theorem cl_constraintref21_Compare : callee Tryz.prog 168 := ⟨_, _, Tryz.func168, rfl, by decide⟩
theorem cl_constraintref21_ints : callee Tryz.prog 210 := ⟨_, _, Tryz.func210, rfl, by decide⟩
end Go.Proofs.YtdoljfkjdfaakaaGreat


namespace Go.Proofs.YtdoljfkjdfaakaaGreat
set_option maxRecDepth 100000
open Go.RowKit

structure S_constraintref52_writer where
  f0_b : (List Int)
  f1_bad : Bool

def enc_S_constraintref52_writer (x : S_constraintref52_writer) : D := .agg [.lst (x.f0_b.map (D.int .u8)), .bool x.f1_bad]

noncomputable def lf_Pconstraintref52_writer_num_s1 (n_a1 : Int) (low_a2 : Int) (high_a3 : Int) (c_0 : S_constraintref52_writer) : Option (S_constraintref52_writer) :=
  (bif c_0.f1_bad then
  ((x_cPutInt c_0.f0_b n_a1).bind fun r_2 =>
  some ((⟨r_2, true⟩ : S_constraintref52_writer)))
  else
  (bif (decide (n_a1 < low_a2)) then
  ((x_cPutInt c_0.f0_b n_a1).bind fun r_4 =>
  some ((⟨r_4, true⟩ : S_constraintref52_writer)))
  else
  ((x_cPutInt c_0.f0_b n_a1).bind fun r_5 =>
  some ((⟨r_5, (decide (n_a1 > high_a3))⟩ : S_constraintref52_writer)))))

set_option maxHeartbeats 1000000 in
theorem lg_Pconstraintref52_writer_num_s1 (n_a1 : Int) (low_a2 : Int) (high_a3 : Int) (c_0 : S_constraintref52_writer) (b_o0 : Nat) (res : S_constraintref52_writer) (hr : lf_Pconstraintref52_writer_num_s1 n_a1 low_a2 high_a3 c_0 = some res) : Spec Tryz.prog 41 [.ref b_o0 0 [], .int .i64 n_a1, .int .i64 low_a2, .int .i64 high_a3] [.cell b_o0 (enc_S_constraintref52_writer c_0)] (fun d σ => d = .tup [] ∧ σ = [.cell b_o0 (enc_S_constraintref52_writer res)]) := by
  unfold lf_Pconstraintref52_writer_num_s1 at hr
  refine spec_env [(0, .ref b_o0 0 []), (1, .int .i64 n_a1), (2, .int .i64 low_a2), (3, .int .i64 high_a3)] Tryz.func41 rfl rfl fun K hK => ?_
  refine g_seq ?_
  refine g_run (by kernel_rfl) [(0, .d), (1, .d), (2, .d), (3, .d), (4, .r), (5, .d), (6, .d), (7, .d), (8, .d), (9, .d), (10, .d), (11, .d), (12, .d), (13, .d), (14, .d), (15, .d), (16, .d), (17, .w)] rfl ?_
  refine r_d rfl rfl rfl (s_move rfl rfl) ?_
  refine r_d rfl rfl rfl (s_move rfl rfl) ?_
  refine r_d rfl rfl rfl (s_nilCheckR rfl rfl) ?_
  refine r_d rfl rfl rfl (s_fieldRef rfl fl_constraintref52_writer_1 rfl) ?_
  refine r_r rfl rfl rfl (t_loadRef rfl rfl (.head _) rfl rfl (by exact ty_bool) rfl) ?_
  refine r_d rfl rfl rfl (s_move rfl rfl) ?_
  refine r_sB 13 rfl hr (fun h13_0 hr => ?_) (fun h13_0 hr => ?_)
  ·
   refine r_skip rfl rfl rfl ?_
   refine r_skip rfl rfl rfl ?_
   refine r_skip rfl rfl rfl ?_
   refine r_d rfl rfl rfl (s_pickT rfl rfl rfl) ?_
   refine r_d rfl rfl rfl (s_move rfl rfl) ?_
   refine r_skip rfl rfl rfl ?_
   refine r_skip rfl rfl rfl ?_
   refine r_skip rfl rfl rfl ?_
   refine r_d rfl rfl rfl (s_pickT rfl rfl rfl) ?_
   refine r_d rfl rfl rfl (s_nilCheckR rfl rfl) ?_
   refine r_d rfl rfl rfl (s_fieldRef rfl fl_constraintref52_writer_1 rfl) ?_
   refine r_w01 rfl rfl rfl (t_store _ rfl rfl rfl (Wk.refl _) (pf0 _) rfl rfl (by exact ty_bool) rfl rfl rfl) ?_
   refine r_end ?_
   refine g_run (by kernel_rfl) [(0, .d), (1, .d), (2, .d), (3, .d), (4, .r), (5, .d), (6, .d), (7, .d), (8, .d), (9, .w)] rfl ?_
   refine r_d rfl rfl rfl (s_move rfl rfl) ?_
   refine r_d rfl rfl rfl (s_move rfl rfl) ?_
   refine r_d rfl rfl rfl (s_nilCheckR rfl rfl) ?_
   refine r_d rfl rfl rfl (s_fieldRef rfl fl_constraintref52_writer_0 rfl) ?_
   refine r_r rfl rfl rfl (t_loadRef rfl rfl (.head _) rfl rfl (by exact ty_L_uint8) rfl) ?_
   refine r_d rfl rfl rfl (s_move rfl rfl) ?_
   obtain ⟨r_2, hr_2, hr⟩ := bindS hr
   refine r_d rfl rfl rfl (s_callD rfl cl_constraintref01_PutInt (.cons rfl (Wk.refl _) (.cons rfl (Wk.refl _) .nil)) (lx_constraintref01_PutInt _ _ _ hr_2)) ?_
   refine r_d rfl rfl rfl (s_nilCheckR rfl rfl) ?_
   refine r_d rfl rfl rfl (s_fieldRef rfl fl_constraintref52_writer_0 rfl) ?_
   refine r_w01 rfl rfl rfl (t_store _ rfl rfl rfl (Wk.refl _) (pf0 _) rfl rfl (by exact ty_L_uint8) rfl rfl rfl) ?_
   refine r_end ?_
   obtain rfl := Option.some.inj hr
   refine g_end Tryz.func41 _ .nil ?_
   exact ⟨rfl, rfl⟩
  ·
   refine r_d rfl rfl rfl (s_move rfl rfl) ?_
   refine r_d rfl rfl rfl (s_move rfl rfl) ?_
   refine r_d rfl rfl rfl (s_cmp rfl rfl rfl rfl) ?_
   refine r_d rfl rfl rfl (s_pickF rfl rfl rfl) ?_
   refine r_d rfl rfl rfl (s_move rfl rfl) ?_
   refine r_sB 18 rfl hr (fun h18_2 hr => ?_) (fun h18_2 hr => ?_)
   ·
    refine r_skip rfl rfl rfl ?_
    refine r_skip rfl rfl rfl ?_
    refine r_skip rfl rfl rfl ?_
    refine r_d rfl rfl rfl (s_pickT rfl rfl rfl) ?_
    refine r_d rfl rfl rfl (s_nilCheckR rfl rfl) ?_
    refine r_d rfl rfl rfl (s_fieldRef rfl fl_constraintref52_writer_1 rfl) ?_
    refine r_w01 rfl rfl rfl (t_store _ rfl rfl rfl (Wk.refl _) (pf0 _) rfl rfl (by exact ty_bool) rfl rfl rfl) ?_
    refine r_end ?_
    refine g_run (by kernel_rfl) [(0, .d), (1, .d), (2, .d), (3, .d), (4, .r), (5, .d), (6, .d), (7, .d), (8, .d), (9, .w)] rfl ?_
    refine r_d rfl rfl rfl (s_move rfl rfl) ?_
    refine r_d rfl rfl rfl (s_move rfl rfl) ?_
    refine r_d rfl rfl rfl (s_nilCheckR rfl rfl) ?_
    refine r_d rfl rfl rfl (s_fieldRef rfl fl_constraintref52_writer_0 rfl) ?_
    refine r_r rfl rfl rfl (t_loadRef rfl rfl (.head _) rfl rfl (by exact ty_L_uint8) rfl) ?_
    refine r_d rfl rfl rfl (s_move rfl rfl) ?_
    obtain ⟨r_4, hr_4, hr⟩ := bindS hr
    refine r_d rfl rfl rfl (s_callD rfl cl_constraintref01_PutInt (.cons rfl (Wk.refl _) (.cons rfl (Wk.refl _) .nil)) (lx_constraintref01_PutInt _ _ _ hr_4)) ?_
    refine r_d rfl rfl rfl (s_nilCheckR rfl rfl) ?_
    refine r_d rfl rfl rfl (s_fieldRef rfl fl_constraintref52_writer_0 rfl) ?_
    refine r_w01 rfl rfl rfl (t_store _ rfl rfl rfl (Wk.refl _) (pf0 _) rfl rfl (by exact ty_L_uint8) rfl rfl rfl) ?_
    refine r_end ?_
    obtain rfl := Option.some.inj hr
    refine g_end Tryz.func41 _ .nil ?_
    exact ⟨rfl, rfl⟩
   ·
    refine r_d rfl rfl rfl (s_move rfl rfl) ?_
    refine r_d rfl rfl rfl (s_move rfl rfl) ?_
    refine r_d rfl rfl rfl (s_cmp rfl rfl rfl rfl) ?_
    refine r_d rfl rfl rfl (s_pickF rfl rfl rfl) ?_
    refine r_d rfl rfl rfl (s_nilCheckR rfl rfl) ?_
    refine r_d rfl rfl rfl (s_fieldRef rfl fl_constraintref52_writer_1 rfl) ?_
    refine r_w01 rfl rfl rfl (t_store _ rfl rfl rfl (Wk.refl _) (pf0 _) rfl rfl (by exact ty_bool) rfl rfl rfl) ?_
    refine r_end ?_
    refine g_run (by kernel_rfl) [(0, .d), (1, .d), (2, .d), (3, .d), (4, .r), (5, .d), (6, .d), (7, .d), (8, .d), (9, .w)] rfl ?_
    refine r_d rfl rfl rfl (s_move rfl rfl) ?_
    refine r_d rfl rfl rfl (s_move rfl rfl) ?_
    refine r_d rfl rfl rfl (s_nilCheckR rfl rfl) ?_
    refine r_d rfl rfl rfl (s_fieldRef rfl fl_constraintref52_writer_0 rfl) ?_
    refine r_r rfl rfl rfl (t_loadRef rfl rfl (.head _) rfl rfl (by exact ty_L_uint8) rfl) ?_
    refine r_d rfl rfl rfl (s_move rfl rfl) ?_
    obtain ⟨r_5, hr_5, hr⟩ := bindS hr
    refine r_d rfl rfl rfl (s_callD rfl cl_constraintref01_PutInt (.cons rfl (Wk.refl _) (.cons rfl (Wk.refl _) .nil)) (lx_constraintref01_PutInt _ _ _ hr_5)) ?_
    refine r_d rfl rfl rfl (s_nilCheckR rfl rfl) ?_
    refine r_d rfl rfl rfl (s_fieldRef rfl fl_constraintref52_writer_0 rfl) ?_
    refine r_w01 rfl rfl rfl (t_store _ rfl rfl rfl (Wk.refl _) (pf0 _) rfl rfl (by exact ty_L_uint8) rfl rfl rfl) ?_
    refine r_end ?_
    obtain rfl := Option.some.inj hr
    refine g_end Tryz.func41 _ .nil ?_
    exact ⟨rfl, rfl⟩

noncomputable def lf_Pconstraintref52_writer_text_s1 (s_a1 : ByteArray) (c_0 : S_constraintref52_writer) : Option (S_constraintref52_writer) :=
  (bif (decide ((s_a1.size : Int) > (40 : Int))) then
  some ((⟨c_0.f0_b, true⟩ : S_constraintref52_writer))
  else
  ((x_cPutText c_0.f0_b s_a1).bind fun r_2 =>
  some ((⟨r_2, c_0.f1_bad⟩ : S_constraintref52_writer))))

set_option maxHeartbeats 1000000 in
theorem lg_Pconstraintref52_writer_text_s1 (s_a1 : ByteArray) (c_0 : S_constraintref52_writer) (b_o0 : Nat) (res : S_constraintref52_writer) (hr : lf_Pconstraintref52_writer_text_s1 s_a1 c_0 = some res) : Spec Tryz.prog 42 [.ref b_o0 0 [], .str s_a1] [.cell b_o0 (enc_S_constraintref52_writer c_0)] (fun d σ => d = .tup [] ∧ σ = [.cell b_o0 (enc_S_constraintref52_writer res)]) := by
  unfold lf_Pconstraintref52_writer_text_s1 at hr
  refine spec_env [(0, .ref b_o0 0 []), (1, .str s_a1)] Tryz.func42 rfl rfl fun K hK => ?_
  refine g_seq ?_
  refine g_seq ?_
  refine g_run (by kernel_rfl) [(0, .d), (1, .d), (2, .d)] rfl ?_
  refine r_d rfl rfl rfl (s_move rfl rfl) ?_
  refine r_d rfl rfl rfl (s_lenS rfl Tryz.underlying9 rfl) ?_
  refine r_d rfl rfl rfl (s_cmp rfl rfl rfl rfl) ?_
  refine r_end ?_
  refine g_sB 6 rfl hr (fun h6_0 hr => ?_) (fun h6_0 hr => ?_)
  ·
   refine g_condT rfl ?_
   refine g_seq ?_
   refine g_run (by kernel_rfl) [(0, .d), (1, .d), (2, .d), (3, .w)] rfl ?_
   refine r_d rfl rfl rfl (s_move rfl rfl) ?_
   refine r_d rfl rfl rfl (s_nilCheckR rfl rfl) ?_
   refine r_d rfl rfl rfl (s_fieldRef rfl fl_constraintref52_writer_1 rfl) ?_
   refine r_w01 rfl rfl rfl (t_store _ rfl rfl rfl (Wk.refl _) (pf0 _) rfl rfl (by exact ty_bool) rfl rfl rfl) ?_
   refine r_end ?_
   obtain rfl := Option.some.inj hr
   refine g_ret Tryz.func42 _ .nil ?_
   exact ⟨rfl, rfl⟩
  ·
   refine g_condF rfl ?_
   refine g_skip ?_
   refine g_run (by kernel_rfl) [(0, .d), (1, .d), (2, .d), (3, .d), (4, .r), (5, .d), (6, .d), (7, .d), (8, .d), (9, .w)] rfl ?_
   refine r_d rfl rfl rfl (s_move rfl rfl) ?_
   refine r_d rfl rfl rfl (s_move rfl rfl) ?_
   refine r_d rfl rfl rfl (s_nilCheckR rfl rfl) ?_
   refine r_d rfl rfl rfl (s_fieldRef rfl fl_constraintref52_writer_0 rfl) ?_
   refine r_r rfl rfl rfl (t_loadRef rfl rfl (.head _) rfl rfl (by exact ty_L_uint8) rfl) ?_
   refine r_d rfl rfl rfl (s_move rfl rfl) ?_
   obtain ⟨r_2, hr_2, hr⟩ := bindS hr
   refine r_d rfl rfl rfl (s_callD rfl cl_constraintref01_PutText (.cons rfl (Wk.refl _) (.cons rfl (Wk.refl _) .nil)) (lx_constraintref01_PutText _ _ _ hr_2)) ?_
   refine r_d rfl rfl rfl (s_nilCheckR rfl rfl) ?_
   refine r_d rfl rfl rfl (s_fieldRef rfl fl_constraintref52_writer_0 rfl) ?_
   refine r_w01 rfl rfl rfl (t_store _ rfl rfl rfl (Wk.refl _) (pf0 _) rfl rfl (by exact ty_L_uint8) rfl rfl rfl) ?_
   refine r_end ?_
   obtain rfl := Option.some.inj hr
   refine g_end Tryz.func42 _ .nil ?_
   exact ⟨rfl, rfl⟩

noncomputable def lfo_Pconstraintref52_writer_term_s1 (rec : (List T) → S_constraintref52_writer → Option (S_constraintref52_writer)) (t_a1 : T) (c_0 : S_constraintref52_writer) : Option (S_constraintref52_writer) :=
  ((x_rightT t_a1).bind fun r_1 =>
  (bif (!r_1) then
  some ((⟨c_0.f0_b, true⟩ : S_constraintref52_writer))
  else
  ((lf_Pconstraintref52_writer_num_s1 t_a1.k 0 2 c_0).bind fun r_3 =>
  (bif (t_a1.k != (2 : Int)) then
  ((lf_Pconstraintref52_writer_num_s1 t_a1.i (-2147483648) 2147483648 r_3).bind fun r_5 =>
  some (r_5))
  else
  ((lf_Pconstraintref52_writer_text_s1 t_a1.s r_3).bind fun r_6 =>
  ((rec t_a1.ar r_6).bind fun r_7 =>
  some (r_7)))))))

set_option maxHeartbeats 1000000 in
theorem lgo_Pconstraintref52_writer_term_s1 (rec : (List T) → S_constraintref52_writer → Option (S_constraintref52_writer)) (IHR : ∀ (l_a1 : (List T)) (c_0 : S_constraintref52_writer) (b_o0 : Nat) (res : S_constraintref52_writer), rec l_a1 c_0 = some res → Spec Tryz.prog 158 [.ref b_o0 0 [], .lst (l_a1.map encT)] [.cell b_o0 (enc_S_constraintref52_writer c_0)] (fun d σ => d = .tup [] ∧ σ = [.cell b_o0 (enc_S_constraintref52_writer res)])) (t_a1 : T) (c_0 : S_constraintref52_writer) (b_o0 : Nat) (res : S_constraintref52_writer) (hr : lfo_Pconstraintref52_writer_term_s1 rec t_a1 c_0 = some res) : Spec Tryz.prog 73 [.ref b_o0 0 [], encT t_a1] [.cell b_o0 (enc_S_constraintref52_writer c_0)] (fun d σ => d = .tup [] ∧ σ = [.cell b_o0 (enc_S_constraintref52_writer res)]) := by
  unfold lfo_Pconstraintref52_writer_term_s1 at hr
  refine spec_env [(0, .ref b_o0 0 []), (1, encT t_a1)] Tryz.func73 rfl rfl fun K hK => ?_
  refine g_seq ?_
  refine g_run (by kernel_rfl) [(0, .d)] rfl ?_
  refine r_d rfl rfl rfl (s_box rfl rfl rfl) ?_
  refine r_end ?_
  refine g_seq ?_
  refine g_seq ?_
  refine g_run (by kernel_rfl) [(0, .d), (1, .d), (2, .d)] rfl ?_
  refine r_d rfl rfl rfl (s_load rfl rfl (by exact ty_api_Term) (sz_encT _)) ?_
  obtain ⟨r_1, hr_1, hr⟩ := bindS hr
  refine r_d rfl rfl rfl (s_callD rfl cl_constraintref03_Right (.cons rfl (Wk.refl _) .nil) (lx_constraintref03_Right _ _ hr_1)) ?_
  refine r_d rfl rfl rfl (s_not rfl rfl) ?_
  refine r_end ?_
  refine g_sB 6 rfl hr (fun h6_1 hr => ?_) (fun h6_1 hr => ?_)
  ·
   refine g_condT rfl ?_
   refine g_seq ?_
   refine g_run (by kernel_rfl) [(0, .d), (1, .d), (2, .d), (3, .w)] rfl ?_
   refine r_d rfl rfl rfl (s_move rfl rfl) ?_
   refine r_d rfl rfl rfl (s_nilCheckR rfl rfl) ?_
   refine r_d rfl rfl rfl (s_fieldRef rfl fl_constraintref52_writer_1 rfl) ?_
   refine r_w01 rfl rfl rfl (t_store _ rfl rfl rfl (Wk.refl _) (pf0 _) rfl rfl (by exact ty_bool) rfl rfl rfl) ?_
   refine r_end ?_
   obtain rfl := Option.some.inj hr
   refine g_ret Tryz.func73 _ .nil ?_
   exact ⟨rfl, rfl⟩
  ·
   refine g_condF rfl ?_
   refine g_skip ?_
   refine g_seq ?_
   refine g_run (by kernel_rfl) [(0, .d), (1, .d), (2, .d), (3, .w)] rfl ?_
   refine r_d rfl rfl rfl (s_move rfl rfl) ?_
   refine r_d rfl rfl rfl (s_fieldAddr rfl fl_api_Term_0 rfl (fsT_get0 _) (fsT_off0 _) rfl) ?_
   refine r_d rfl rfl rfl (s_load rfl rfl (by exact ty_int) rfl) ?_
   obtain ⟨r_3, hr_3, hr⟩ := bindS hr
   refine r_w rfl rfl rfl (s_call _ rfl cl_Pconstraintref52_writer_num (.cons rfl (Wk.refl _) (.cons rfl (Wk.refl _) (.cons rfl (Wk.refl _) (.cons rfl (Wk.refl _) .nil)))) (by exact (pf0 _)) (lg_Pconstraintref52_writer_num_s1 _ _ _ _ _ _ hr_3)) ?_
   rintro _ _ ⟨_, ⟨rfl, rfl⟩, rfl⟩
   refine r_st ((.cell b_o0 (enc_S_constraintref52_writer r_3)) :: _) rfl ?_
   refine r_end ?_
   refine g_seq ?_
   refine g_seq ?_
   refine g_run (by kernel_rfl) [(0, .d), (1, .d), (2, .d)] rfl ?_
   refine r_d rfl rfl rfl (s_fieldAddr rfl fl_api_Term_0 rfl (fsT_get0 _) (fsT_off0 _) rfl) ?_
   refine r_d rfl rfl rfl (s_load rfl rfl (by exact ty_int) rfl) ?_
   refine r_d rfl rfl rfl (s_cmp rfl rfl rfl rfl) ?_
   refine r_end ?_
   refine g_sB 16 rfl hr (fun h16_3 hr => ?_) (fun h16_3 hr => ?_)
   ·
    refine g_condT rfl ?_
    refine g_seq ?_
    refine g_run (by kernel_rfl) [(0, .d), (1, .d), (2, .d), (3, .w)] rfl ?_
    refine r_d rfl rfl rfl (s_move rfl rfl) ?_
    refine r_d rfl rfl rfl (s_fieldAddr rfl fl_api_Term_1 rfl (fsT_get1 _) (fsT_off1 _) rfl) ?_
    refine r_d rfl rfl rfl (s_load rfl rfl (by exact ty_int) rfl) ?_
    obtain ⟨r_5, hr_5, hr⟩ := bindS hr
    refine r_w rfl rfl rfl (s_call _ rfl cl_Pconstraintref52_writer_num (.cons rfl (Wk.refl _) (.cons rfl (Wk.refl _) (.cons rfl (Wk.refl _) (.cons rfl (Wk.refl _) .nil)))) (by exact (pf0 _)) (lg_Pconstraintref52_writer_num_s1 _ _ _ _ _ _ hr_5)) ?_
    rintro _ _ ⟨_, ⟨rfl, rfl⟩, rfl⟩
    refine r_st ((.cell b_o0 (enc_S_constraintref52_writer r_5)) :: _) rfl ?_
    refine r_end ?_
    obtain rfl := Option.some.inj hr
    refine g_ret Tryz.func73 _ .nil ?_
    exact ⟨rfl, rfl⟩
   ·
    refine g_condF rfl ?_
    refine g_skip ?_
    refine g_seq ?_
    refine g_run (by kernel_rfl) [(0, .d), (1, .d), (2, .d), (3, .w)] rfl ?_
    refine r_d rfl rfl rfl (s_move rfl rfl) ?_
    refine r_d rfl rfl rfl (s_fieldAddr rfl fl_api_Term_2 rfl (fsT_get2 _) (fsT_off2 _) rfl) ?_
    refine r_d rfl rfl rfl (s_load rfl rfl (by exact ty_string) rfl) ?_
    obtain ⟨r_6, hr_6, hr⟩ := bindS hr
    refine r_w rfl rfl rfl (s_call _ rfl cl_Pconstraintref52_writer_text (.cons rfl (Wk.refl _) (.cons rfl (Wk.refl _) .nil)) (by exact (pf0 _)) (lg_Pconstraintref52_writer_text_s1 _ _ _ _ hr_6)) ?_
    rintro _ _ ⟨_, ⟨rfl, rfl⟩, rfl⟩
    refine r_st ((.cell b_o0 (enc_S_constraintref52_writer r_6)) :: _) rfl ?_
    refine r_end ?_
    refine g_run (by kernel_rfl) [(0, .d), (1, .d), (2, .d), (3, .w)] rfl ?_
    refine r_d rfl rfl rfl (s_move rfl rfl) ?_
    refine r_d rfl rfl rfl (s_fieldAddr rfl fl_api_Term_3 rfl (fsT_get3 _) (fsT_off3 _) rfl) ?_
    refine r_d rfl rfl rfl (s_load rfl rfl (by exact ty_L_api_Term) rfl) ?_
    obtain ⟨r_7, hr_7, hr⟩ := bindS hr
    refine r_w rfl rfl rfl (s_call _ rfl cl_Pconstraintref52_writer_terms (.cons rfl (Wk.refl _) (.cons rfl (Wk.refl _) .nil)) (by exact (pf0 _)) (IHR _ _ _ _ hr_7)) ?_
    rintro _ _ ⟨_, ⟨rfl, rfl⟩, rfl⟩
    refine r_st ((.cell b_o0 (enc_S_constraintref52_writer r_7)) :: _) rfl ?_
    refine r_end ?_
    obtain rfl := Option.some.inj hr
    refine g_end Tryz.func73 _ .nil ?_
    exact ⟨rfl, rfl⟩

noncomputable def lf_Pconstraintref52_writer_terms_s1_L0 (k : (S_constraintref52_writer) → Option (S_constraintref52_writer)) (rec : (List T) → S_constraintref52_writer → Option (S_constraintref52_writer)) : List T → S_constraintref52_writer → Option (S_constraintref52_writer)
  | [], w_3 =>
  (k w_3)
  | q_5 :: rest, w_3 =>
  (bif (!w_3.f1_bad) then
  ((lfo_Pconstraintref52_writer_term_s1 rec q_5 w_3).bind fun r_7 =>
  (lf_Pconstraintref52_writer_terms_s1_L0 k rec rest r_7))
  else
  (k w_3))
noncomputable def lf_Pconstraintref52_writer_terms_s1 : Nat → (List T) → S_constraintref52_writer → Option (S_constraintref52_writer)
  | 0, _, _ => none
  | fuel + 1, l_a1, c_0 =>
    (fun (rec : (List T) → S_constraintref52_writer → Option (S_constraintref52_writer)) =>
      ((lf_Pconstraintref52_writer_num_s1 (l_a1.length : Int) 0 6 c_0).bind fun r_1 =>
      (lf_Pconstraintref52_writer_terms_s1_L0 (fun w_4 =>
      some (w_4)) rec l_a1 r_1))) (lf_Pconstraintref52_writer_terms_s1 fuel)

set_option maxHeartbeats 1000000 in
theorem lgs_Pconstraintref52_writer_terms_s1 (fuel : Nat) (rec : (List T) → S_constraintref52_writer → Option (S_constraintref52_writer)) (IHR : ∀ (l_a1 : (List T)) (c_0 : S_constraintref52_writer) (b_o0 : Nat) (res : S_constraintref52_writer), rec l_a1 c_0 = some res → Spec Tryz.prog 158 [.ref b_o0 0 [], .lst (l_a1.map encT)] [.cell b_o0 (enc_S_constraintref52_writer c_0)] (fun d σ => d = .tup [] ∧ σ = [.cell b_o0 (enc_S_constraintref52_writer res)])) (l_a1 : (List T)) (c_0 : S_constraintref52_writer) (b_o0 : Nat) (res : S_constraintref52_writer)
    (hr : ((lf_Pconstraintref52_writer_num_s1 (l_a1.length : Int) 0 6 c_0).bind fun r_1 =>
(lf_Pconstraintref52_writer_terms_s1_L0 (fun w_4 =>
some (w_4)) rec l_a1 r_1)) = some res) : Spec Tryz.prog 158 [.ref b_o0 0 [], .lst (l_a1.map encT)] [.cell b_o0 (enc_S_constraintref52_writer c_0)] (fun d σ => d = .tup [] ∧ σ = [.cell b_o0 (enc_S_constraintref52_writer res)]) := by
  refine spec_env [(0, .ref b_o0 0 []), (1, .lst (l_a1.map encT))] Tryz.func158 rfl rfl fun K hK => ?_
  refine g_seq ?_
  refine g_run (by kernel_rfl) [(0, .d), (1, .d), (2, .d), (3, .w)] rfl ?_
  refine r_d rfl rfl rfl (s_move rfl rfl) ?_
  refine r_d rfl rfl rfl (s_move rfl rfl) ?_
  refine r_d rfl rfl rfl (m_len (f := encT) l_a1 rfl el_L_api_Term rfl (asl rfl)) ?_
  obtain ⟨r_1, hr_1, hr⟩ := bindS hr
  refine r_w rfl rfl rfl (s_call _ rfl cl_Pconstraintref52_writer_num (.cons rfl (Wk.refl _) (.cons rfl (Wk.refl _) (.cons rfl (Wk.refl _) (.cons rfl (Wk.refl _) .nil)))) (by exact (pf0 _)) (lg_Pconstraintref52_writer_num_s1 _ _ _ _ _ _ hr_1)) ?_
  rintro _ _ ⟨_, ⟨rfl, rfl⟩, rfl⟩
  refine r_st ((.cell b_o0 (enc_S_constraintref52_writer r_1)) :: _) rfl ?_
  refine r_end ?_
  refine g_seq ?_
  refine g_run (by kernel_rfl) [(0, .d)] rfl ?_
  refine r_d rfl rfl rfl (s_assign rfl rfl) ?_
  refine r_end ?_
  obtain ⟨kk0, hkk0, hr⟩ := exK (fun k => lf_Pconstraintref52_writer_terms_s1_L0 k rec l_a1 r_1) hr
  refine g_len 1 rfl (asl rfl) fun hla0 => ?_
  simp only [List.length_map] at hla0
  refine g_blockJ (fun env σ => ∃ (w_4 : S_constraintref52_writer), env = [] ∧ σ = [.cell b_o0 (enc_S_constraintref52_writer w_4)] ∧ kk0 w_4 = some res) ?_ (fun HK0 => ?_)
  ·
   rintro _ _ ⟨w_4, rfl, rfl, hr⟩
   rw [hkk0] at hr
   obtain rfl := Option.some.inj hr
   refine g_end Tryz.func158 _ .nil ?_
   exact ⟨rfl, rfl⟩
  ·
   refine g_sub [(0, .ref b_o0 0 []), (1, .lst (l_a1.map encT)), (4, .int .i64 ((0 : Nat) : Int))] (Sub.cons' rfl (Sub.cons' rfl (Sub.cons' rfl (Sub.nil _)))) ?_
   refine g_loop (fun n env σ => ∃ (i_2 : Nat) (w_3 : S_constraintref52_writer), (n = l_a1.length - i_2) ∧ (env = [(0, .ref b_o0 0 []), (1, .lst (l_a1.map encT)), (4, .int .i64 (i_2 : Int))]) ∧ (σ = [.cell b_o0 (enc_S_constraintref52_writer w_3)]) ∧ (i_2 ≤ l_a1.length) ∧ (lf_Pconstraintref52_writer_terms_s1_L0 kk0 rec (l_a1.drop i_2) w_3 = some res)) _ ⟨0, r_1, rfl, rfl, rfl, Nat.zero_le _, hr⟩ ?_
   rintro n _ _ ⟨i_2, w_3, rfl, rfl, rfl, hi0, hr⟩ IH0
   rcases listStep l_a1 i_2 hi0 with ⟨ht0, hd0, he0⟩ | ⟨q_5, ht0, hd0, hq0, hlt0⟩
   ·
    rw [hd0, lf_Pconstraintref52_writer_terms_s1_L0] at hr
    refine g_seq ?_
    refine g_seq ?_
    refine g_run (by kernel_rfl) [(0, .d), (1, .d), (2, .d), (3, .d), (4, .d), (5, .d), (6, .d), (7, .d), (8, .r), (9, .d), (10, .d)] rfl ?_
    refine r_d rfl rfl rfl (s_move rfl rfl) ?_
    refine r_d rfl rfl rfl (s_move rfl rfl) ?_
    refine r_d rfl rfl rfl (m_len (f := encT) l_a1 rfl el_L_api_Term rfl (asl rfl)) ?_
    refine r_d rfl rfl rfl (s_cmp rfl rfl rfl rfl) ?_
    refine r_d rfl rfl rfl (s_move rfl rfl) ?_
    refine r_known 13 false rfl ht0 ?_
    refine r_skip rfl rfl rfl ?_
    refine r_skip rfl rfl rfl ?_
    refine r_skip rfl rfl rfl ?_
    refine r_skip rfl rfl rfl ?_
    refine r_skip rfl rfl rfl ?_
    refine r_d rfl rfl rfl (s_pickF rfl rfl rfl) ?_
    refine r_end ?_
    refine g_condF rfl ?_
    refine g_exit rfl ?_
    refine g_sub [] (Sub.nil _) ?_
    exact HK0 _ _ ⟨w_3, rfl, rfl, hr⟩
   ·
    rw [hd0, lf_Pconstraintref52_writer_terms_s1_L0] at hr
    refine g_seq ?_
    refine g_seq ?_
    refine g_run (by kernel_rfl) [(0, .d), (1, .d), (2, .d), (3, .d), (4, .d), (5, .d), (6, .d), (7, .d), (8, .r), (9, .d), (10, .d)] rfl ?_
    refine r_d rfl rfl rfl (s_move rfl rfl) ?_
    refine r_d rfl rfl rfl (s_move rfl rfl) ?_
    refine r_d rfl rfl rfl (m_len (f := encT) l_a1 rfl el_L_api_Term rfl (asl rfl)) ?_
    refine r_d rfl rfl rfl (s_cmp rfl rfl rfl rfl) ?_
    refine r_d rfl rfl rfl (s_move rfl rfl) ?_
    refine r_known 13 true rfl ht0 ?_
    refine r_d rfl rfl rfl (s_move rfl rfl) ?_
    refine r_d rfl rfl rfl (s_nilCheckR rfl rfl) ?_
    refine r_d rfl rfl rfl (s_fieldRef rfl fl_constraintref52_writer_1 rfl) ?_
    refine r_r rfl rfl rfl (t_loadRef rfl rfl (.head _) rfl rfl (by exact ty_bool) rfl) ?_
    refine r_d rfl rfl rfl (s_not rfl rfl) ?_
    refine r_d rfl rfl rfl (s_pickT rfl rfl rfl) ?_
    refine r_end ?_
    refine g_sB 19 rfl hr (fun h19_5 hr => ?_) (fun h19_5 hr => ?_)
    ·
     refine g_condT rfl ?_
     refine g_skip ?_
     refine g_seq ?_
     refine g_block ?_
     refine g_run (by kernel_rfl) [(0, .d), (1, .d), (2, .d), (3, .d), (4, .d), (5, .w)] rfl ?_
     refine r_d rfl rfl rfl (s_move rfl rfl) ?_
     refine r_d rfl rfl rfl (s_move rfl rfl) ?_
     refine r_d rfl rfl rfl (s_move rfl rfl) ?_
     refine r_d rfl rfl rfl (m_index (f := encT) l_a1 rfl el_L_api_Term rfl (asl rfl) rfl hq0 sz_encT rfl) ?_
     refine r_d rfl rfl rfl (s_load rfl rfl (by exact ty_api_Term) (sz_encT _)) ?_
     obtain ⟨r_7, hr_7, hr⟩ := bindS hr
     refine r_w rfl rfl rfl (s_call _ rfl cl_Pconstraintref52_writer_term (.cons rfl (Wk.refl _) (.cons rfl (Wk.refl _) .nil)) (by exact (pf0 _)) (lgo_Pconstraintref52_writer_term_s1 rec IHR _ _ _ _ hr_7)) ?_
     rintro _ _ ⟨_, ⟨rfl, rfl⟩, rfl⟩
     refine r_st ((.cell b_o0 (enc_S_constraintref52_writer r_7)) :: _) rfl ?_
     refine r_end ?_
     refine g_inBlock ?_
     refine g_run (by kernel_rfl) [(0, .d), (1, .d), (2, .d)] rfl ?_
     refine r_d rfl rfl rfl (s_move rfl rfl) ?_
     refine r_d rfl rfl rfl (s_ar (r := ((i_2 + 1 : Nat) : Int)) rfl rfl rfl (by simp [iar]) (by omega)) ?_
     refine r_d rfl rfl rfl (s_assign rfl rfl) ?_
     refine r_end ?_
     refine g_sub [(0, .ref b_o0 0 []), (1, .lst (l_a1.map encT)), (4, .int .i64 ((i_2 + 1 : Nat) : Int))] (Sub.cons' rfl (Sub.cons' rfl (Sub.cons' rfl (Sub.nil _)))) ?_
     exact IH0 _ _ _ (by omega) ⟨(i_2 + 1), r_7, rfl, rfl, rfl, (by omega), hr⟩
    ·
     refine g_condF rfl ?_
     refine g_exit rfl ?_
     refine g_sub [] (Sub.nil _) ?_
     exact HK0 _ _ ⟨w_3, rfl, rfl, hr⟩
theorem lg_Pconstraintref52_writer_terms_s1 : ∀ (fuel : Nat) (l_a1 : (List T)) (c_0 : S_constraintref52_writer) (b_o0 : Nat) (res : S_constraintref52_writer), lf_Pconstraintref52_writer_terms_s1 fuel l_a1 c_0 = some res → Spec Tryz.prog 158 [.ref b_o0 0 [], .lst (l_a1.map encT)] [.cell b_o0 (enc_S_constraintref52_writer c_0)] (fun d σ => d = .tup [] ∧ σ = [.cell b_o0 (enc_S_constraintref52_writer res)])
  | 0, _, _, _, _, h => by cases h
  | fuel + 1, l_a1, c_0, b_o0, res, h => lgs_Pconstraintref52_writer_terms_s1 fuel (lf_Pconstraintref52_writer_terms_s1 fuel) (lg_Pconstraintref52_writer_terms_s1 fuel) l_a1 c_0 b_o0 res h

noncomputable def lf_Pconstraintref52_writer_term_s1 (fuel : Nat) (t_a1 : T) (c_0 : S_constraintref52_writer) : Option (S_constraintref52_writer) := lfo_Pconstraintref52_writer_term_s1 (lf_Pconstraintref52_writer_terms_s1 fuel) t_a1 c_0
theorem lg_Pconstraintref52_writer_term_s1 (fuel : Nat) (t_a1 : T) (c_0 : S_constraintref52_writer) (b_o0 : Nat) (res : S_constraintref52_writer) (hr : lf_Pconstraintref52_writer_term_s1 fuel t_a1 c_0 = some res) : Spec Tryz.prog 73 [.ref b_o0 0 [], encT t_a1] [.cell b_o0 (enc_S_constraintref52_writer c_0)] (fun d σ => d = .tup [] ∧ σ = [.cell b_o0 (enc_S_constraintref52_writer res)]) := lgo_Pconstraintref52_writer_term_s1 (lf_Pconstraintref52_writer_terms_s1 fuel) (lg_Pconstraintref52_writer_terms_s1 fuel) t_a1 c_0 b_o0 res hr

noncomputable def lf_Pconstraintref52_writer_atom_s1 (fuel : Nat) (a_a1 : At) (c_0 : S_constraintref52_writer) : Option (S_constraintref52_writer) :=
  ((x_rightA a_a1).bind fun r_1 =>
  (bif (!r_1) then
  some ((⟨c_0.f0_b, true⟩ : S_constraintref52_writer))
  else
  ((lf_Pconstraintref52_writer_text_s1 a_a1.n c_0).bind fun r_3 =>
  ((lf_Pconstraintref52_writer_terms_s1 fuel a_a1.ts r_3).bind fun r_4 =>
  some (r_4)))))

set_option maxHeartbeats 1000000 in
theorem lg_Pconstraintref52_writer_atom_s1 (fuel : Nat) (a_a1 : At) (c_0 : S_constraintref52_writer) (b_o0 : Nat) (res : S_constraintref52_writer) (hr : lf_Pconstraintref52_writer_atom_s1 fuel a_a1 c_0 = some res) : Spec Tryz.prog 72 [.ref b_o0 0 [], encA a_a1] [.cell b_o0 (enc_S_constraintref52_writer c_0)] (fun d σ => d = .tup [] ∧ σ = [.cell b_o0 (enc_S_constraintref52_writer res)]) := by
  unfold lf_Pconstraintref52_writer_atom_s1 at hr
  refine spec_env [(0, .ref b_o0 0 []), (1, encA a_a1)] Tryz.func72 rfl rfl fun K hK => ?_
  refine g_seq ?_
  refine g_run (by kernel_rfl) [(0, .d)] rfl ?_
  refine r_d rfl rfl rfl (s_box rfl rfl rfl) ?_
  refine r_end ?_
  refine g_seq ?_
  refine g_seq ?_
  refine g_run (by kernel_rfl) [(0, .d), (1, .d), (2, .d)] rfl ?_
  refine r_d rfl rfl rfl (s_load rfl rfl (by exact ty_api_Atom) (sz_encA _)) ?_
  obtain ⟨r_1, hr_1, hr⟩ := bindS hr
  refine r_d rfl rfl rfl (s_callD rfl cl_constraintref03_RightAtom (.cons rfl (Wk.refl _) .nil) (lx_constraintref03_RightAtom _ _ hr_1)) ?_
  refine r_d rfl rfl rfl (s_not rfl rfl) ?_
  refine r_end ?_
  refine g_sB 6 rfl hr (fun h6_1 hr => ?_) (fun h6_1 hr => ?_)
  ·
   refine g_condT rfl ?_
   refine g_seq ?_
   refine g_run (by kernel_rfl) [(0, .d), (1, .d), (2, .d), (3, .w)] rfl ?_
   refine r_d rfl rfl rfl (s_move rfl rfl) ?_
   refine r_d rfl rfl rfl (s_nilCheckR rfl rfl) ?_
   refine r_d rfl rfl rfl (s_fieldRef rfl fl_constraintref52_writer_1 rfl) ?_
   refine r_w01 rfl rfl rfl (t_store _ rfl rfl rfl (Wk.refl _) (pf0 _) rfl rfl (by exact ty_bool) rfl rfl rfl) ?_
   refine r_end ?_
   obtain rfl := Option.some.inj hr
   refine g_ret Tryz.func72 _ .nil ?_
   exact ⟨rfl, rfl⟩
  ·
   refine g_condF rfl ?_
   refine g_skip ?_
   refine g_seq ?_
   refine g_run (by kernel_rfl) [(0, .d), (1, .d), (2, .d), (3, .w)] rfl ?_
   refine r_d rfl rfl rfl (s_move rfl rfl) ?_
   refine r_d rfl rfl rfl (s_fieldAddr rfl fl_api_Atom_0 rfl rfl rfl rfl) ?_
   refine r_d rfl rfl rfl (s_load rfl rfl (by exact ty_string) rfl) ?_
   obtain ⟨r_3, hr_3, hr⟩ := bindS hr
   refine r_w rfl rfl rfl (s_call _ rfl cl_Pconstraintref52_writer_text (.cons rfl (Wk.refl _) (.cons rfl (Wk.refl _) .nil)) (by exact (pf0 _)) (lg_Pconstraintref52_writer_text_s1 _ _ _ _ hr_3)) ?_
   rintro _ _ ⟨_, ⟨rfl, rfl⟩, rfl⟩
   refine r_st ((.cell b_o0 (enc_S_constraintref52_writer r_3)) :: _) rfl ?_
   refine r_end ?_
   refine g_run (by kernel_rfl) [(0, .d), (1, .d), (2, .d), (3, .w)] rfl ?_
   refine r_d rfl rfl rfl (s_move rfl rfl) ?_
   refine r_d rfl rfl rfl (s_fieldAddr rfl fl_api_Atom_1 rfl rfl rfl rfl) ?_
   refine r_d rfl rfl rfl (s_load rfl rfl (by exact ty_L_api_Term) rfl) ?_
   obtain ⟨r_4, hr_4, hr⟩ := bindS hr
   refine r_w rfl rfl rfl (s_call _ rfl cl_Pconstraintref52_writer_terms (.cons rfl (Wk.refl _) (.cons rfl (Wk.refl _) .nil)) (by exact (pf0 _)) (lg_Pconstraintref52_writer_terms_s1 fuel _ _ _ _ hr_4)) ?_
   rintro _ _ ⟨_, ⟨rfl, rfl⟩, rfl⟩
   refine r_st ((.cell b_o0 (enc_S_constraintref52_writer r_4)) :: _) rfl ?_
   refine r_end ?_
   obtain rfl := Option.some.inj hr
   refine g_end Tryz.func72 _ .nil ?_
   exact ⟨rfl, rfl⟩

noncomputable def lf_Pconstraintref52_writer_goal_s1 (fuel : Nat) (g_a1 : Gl) (c_0 : S_constraintref52_writer) : Option (S_constraintref52_writer) :=
  ((x_rightG g_a1).bind fun r_1 =>
  (bif (!r_1) then
  some ((⟨c_0.f0_b, true⟩ : S_constraintref52_writer))
  else
  ((lf_Pconstraintref52_writer_num_s1 g_a1.op 0 12 c_0).bind fun r_3 =>
  ((lf_Pconstraintref52_writer_text_s1 g_a1.n r_3).bind fun r_4 =>
  ((lf_Pconstraintref52_writer_terms_s1 fuel g_a1.ts r_4).bind fun r_5 =>
  some (r_5))))))

set_option maxHeartbeats 1000000 in
theorem lg_Pconstraintref52_writer_goal_s1 (fuel : Nat) (g_a1 : Gl) (c_0 : S_constraintref52_writer) (b_o0 : Nat) (res : S_constraintref52_writer) (hr : lf_Pconstraintref52_writer_goal_s1 fuel g_a1 c_0 = some res) : Spec Tryz.prog 138 [.ref b_o0 0 [], encG g_a1] [.cell b_o0 (enc_S_constraintref52_writer c_0)] (fun d σ => d = .tup [] ∧ σ = [.cell b_o0 (enc_S_constraintref52_writer res)]) := by
  unfold lf_Pconstraintref52_writer_goal_s1 at hr
  refine spec_env [(0, .ref b_o0 0 []), (1, encG g_a1)] Tryz.func138 rfl rfl fun K hK => ?_
  refine g_seq ?_
  refine g_run (by kernel_rfl) [(0, .d)] rfl ?_
  refine r_d rfl rfl rfl (s_box rfl rfl rfl) ?_
  refine r_end ?_
  refine g_seq ?_
  refine g_seq ?_
  refine g_run (by kernel_rfl) [(0, .d), (1, .d), (2, .d)] rfl ?_
  refine r_d rfl rfl rfl (s_load rfl rfl (by exact ty_api_Goal) (sz_encG _)) ?_
  obtain ⟨r_1, hr_1, hr⟩ := bindS hr
  refine r_d rfl rfl rfl (s_callD rfl cl_constraintref03_RightGoal (.cons rfl (Wk.refl _) .nil) (lx_constraintref03_RightGoal _ _ hr_1)) ?_
  refine r_d rfl rfl rfl (s_not rfl rfl) ?_
  refine r_end ?_
  refine g_sB 6 rfl hr (fun h6_1 hr => ?_) (fun h6_1 hr => ?_)
  ·
   refine g_condT rfl ?_
   refine g_seq ?_
   refine g_run (by kernel_rfl) [(0, .d), (1, .d), (2, .d), (3, .w)] rfl ?_
   refine r_d rfl rfl rfl (s_move rfl rfl) ?_
   refine r_d rfl rfl rfl (s_nilCheckR rfl rfl) ?_
   refine r_d rfl rfl rfl (s_fieldRef rfl fl_constraintref52_writer_1 rfl) ?_
   refine r_w01 rfl rfl rfl (t_store _ rfl rfl rfl (Wk.refl _) (pf0 _) rfl rfl (by exact ty_bool) rfl rfl rfl) ?_
   refine r_end ?_
   obtain rfl := Option.some.inj hr
   refine g_ret Tryz.func138 _ .nil ?_
   exact ⟨rfl, rfl⟩
  ·
   refine g_condF rfl ?_
   refine g_skip ?_
   refine g_seq ?_
   refine g_run (by kernel_rfl) [(0, .d), (1, .d), (2, .d), (3, .w)] rfl ?_
   refine r_d rfl rfl rfl (s_move rfl rfl) ?_
   refine r_d rfl rfl rfl (s_fieldAddr rfl fl_api_Goal_0 rfl rfl rfl rfl) ?_
   refine r_d rfl rfl rfl (s_load rfl rfl (by exact ty_int) rfl) ?_
   obtain ⟨r_3, hr_3, hr⟩ := bindS hr
   refine r_w rfl rfl rfl (s_call _ rfl cl_Pconstraintref52_writer_num (.cons rfl (Wk.refl _) (.cons rfl (Wk.refl _) (.cons rfl (Wk.refl _) (.cons rfl (Wk.refl _) .nil)))) (by exact (pf0 _)) (lg_Pconstraintref52_writer_num_s1 _ _ _ _ _ _ hr_3)) ?_
   rintro _ _ ⟨_, ⟨rfl, rfl⟩, rfl⟩
   refine r_st ((.cell b_o0 (enc_S_constraintref52_writer r_3)) :: _) rfl ?_
   refine r_end ?_
   refine g_seq ?_
   refine g_run (by kernel_rfl) [(0, .d), (1, .d), (2, .d), (3, .w)] rfl ?_
   refine r_d rfl rfl rfl (s_move rfl rfl) ?_
   refine r_d rfl rfl rfl (s_fieldAddr rfl fl_api_Goal_1 rfl rfl rfl rfl) ?_
   refine r_d rfl rfl rfl (s_load rfl rfl (by exact ty_string) rfl) ?_
   obtain ⟨r_4, hr_4, hr⟩ := bindS hr
   refine r_w rfl rfl rfl (s_call _ rfl cl_Pconstraintref52_writer_text (.cons rfl (Wk.refl _) (.cons rfl (Wk.refl _) .nil)) (by exact (pf0 _)) (lg_Pconstraintref52_writer_text_s1 _ _ _ _ hr_4)) ?_
   rintro _ _ ⟨_, ⟨rfl, rfl⟩, rfl⟩
   refine r_st ((.cell b_o0 (enc_S_constraintref52_writer r_4)) :: _) rfl ?_
   refine r_end ?_
   refine g_run (by kernel_rfl) [(0, .d), (1, .d), (2, .d), (3, .w)] rfl ?_
   refine r_d rfl rfl rfl (s_move rfl rfl) ?_
   refine r_d rfl rfl rfl (s_fieldAddr rfl fl_api_Goal_2 rfl rfl rfl rfl) ?_
   refine r_d rfl rfl rfl (s_load rfl rfl (by exact ty_L_api_Term) rfl) ?_
   obtain ⟨r_5, hr_5, hr⟩ := bindS hr
   refine r_w rfl rfl rfl (s_call _ rfl cl_Pconstraintref52_writer_terms (.cons rfl (Wk.refl _) (.cons rfl (Wk.refl _) .nil)) (by exact (pf0 _)) (lg_Pconstraintref52_writer_terms_s1 fuel _ _ _ _ hr_5)) ?_
   rintro _ _ ⟨_, ⟨rfl, rfl⟩, rfl⟩
   refine r_st ((.cell b_o0 (enc_S_constraintref52_writer r_5)) :: _) rfl ?_
   refine r_end ?_
   obtain rfl := Option.some.inj hr
   refine g_end Tryz.func138 _ .nil ?_
   exact ⟨rfl, rfl⟩

noncomputable def lf_Pconstraintref52_writer_bytes_s1 (c_0 : S_constraintref52_writer) : Option ((List Int)) :=
  (bif c_0.f1_bad then
  some ([])
  else
  some (c_0.f0_b))

set_option maxHeartbeats 1000000 in
theorem lg_Pconstraintref52_writer_bytes_s1 (c_0 : S_constraintref52_writer) (b_o0 : Nat) (res : (List Int)) (hr : lf_Pconstraintref52_writer_bytes_s1 c_0 = some res) : Spec Tryz.prog 45 [.ref b_o0 0 []] [.cell b_o0 (enc_S_constraintref52_writer c_0)] (fun d σ => d = .lst (res.map (D.int .u8)) ∧ σ = [.cell b_o0 (enc_S_constraintref52_writer c_0)]) := by
  unfold lf_Pconstraintref52_writer_bytes_s1 at hr
  refine spec_env [(0, .ref b_o0 0 [])] Tryz.func45 rfl rfl fun K hK => ?_
  refine g_seq ?_
  refine g_run (by kernel_rfl) [(0, .d)] rfl ?_
  refine r_d rfl rfl rfl (s_assign rfl rfl) ?_
  refine r_end ?_
  refine g_seq ?_
  refine g_seq ?_
  refine g_run (by kernel_rfl) [(0, .d), (1, .d), (2, .d), (3, .r)] rfl ?_
  refine r_d rfl rfl rfl (s_move rfl rfl) ?_
  refine r_d rfl rfl rfl (s_nilCheckR rfl rfl) ?_
  refine r_d rfl rfl rfl (s_fieldRef rfl fl_constraintref52_writer_1 rfl) ?_
  refine r_r rfl rfl rfl (t_loadRef rfl rfl (.head _) rfl rfl (by exact ty_bool) rfl) ?_
  refine r_end ?_
  refine g_sB 6 rfl hr (fun h6_0 hr => ?_) (fun h6_0 hr => ?_)
  ·
   refine g_condT rfl ?_
   refine g_seq ?_
   refine g_run (by kernel_rfl) [(0, .d)] rfl ?_
   refine r_d rfl rfl rfl (s_assign rfl rfl) ?_
   refine r_end ?_
   obtain rfl := Option.some.inj hr
   refine g_ret Tryz.func45 _ (.cons (resTmp rfl (Wk.full _)) .nil) ?_
   exact ⟨rfl, rfl⟩
  ·
   refine g_condF rfl ?_
   refine g_skip ?_
   refine g_seq ?_
   refine g_run (by kernel_rfl) [(0, .d), (1, .d), (2, .d), (3, .r), (4, .d)] rfl ?_
   refine r_d rfl rfl rfl (s_move rfl rfl) ?_
   refine r_d rfl rfl rfl (s_nilCheckR rfl rfl) ?_
   refine r_d rfl rfl rfl (s_fieldRef rfl fl_constraintref52_writer_0 rfl) ?_
   refine r_r rfl rfl rfl (t_loadRef rfl rfl (.head _) rfl rfl (by exact ty_L_uint8) rfl) ?_
   refine r_d rfl rfl rfl (s_assign rfl rfl) ?_
   refine r_end ?_
   obtain rfl := Option.some.inj hr
   refine g_ret Tryz.func45 _ (.cons (resTmp rfl (Wk.refl _)) .nil) ?_
   exact ⟨rfl, rfl⟩

noncomputable def lf_Pconstraintref52_writer_frame_s1 (fuel : Nat) (f_a1 : S_api_Frame) (c_0 : S_constraintref52_writer) : Option (S_constraintref52_writer) :=
  ((lf_Pconstraintref52_writer_num_s1 f_a1.f1_ID 0 2147483648 c_0).bind fun r_1 =>
  ((lf_Pconstraintref52_writer_num_s1 f_a1.f2_Occ (-1) 2147483648 r_1).bind fun r_2 =>
  (bif (f_a1.f1_ID == (0 : Int)) then
  ((lf_Pconstraintref52_writer_goal_s1 fuel f_a1.f0_Goal r_2).bind fun r_4 =>
  some (r_4))
  else
  (bif r_2.f1_bad then
  some ((⟨r_2.f0_b, true⟩ : S_constraintref52_writer))
  else
  (bif (f_a1.f0_Goal.op != (0 : Int)) then
  some ((⟨r_2.f0_b, true⟩ : S_constraintref52_writer))
  else
  (bif (!(f_a1.f0_Goal.n.toList == (⟨#[]⟩ : ByteArray).toList)) then
  some ((⟨r_2.f0_b, true⟩ : S_constraintref52_writer))
  else
  some ((⟨r_2.f0_b, (decide ((f_a1.f0_Goal.ts.length : Int) > (0 : Int)))⟩ : S_constraintref52_writer))))))))

set_option maxHeartbeats 1000000 in
theorem lg_Pconstraintref52_writer_frame_s1 (fuel : Nat) (f_a1 : S_api_Frame) (c_0 : S_constraintref52_writer) (b_o0 : Nat) (res : S_constraintref52_writer) (hr : lf_Pconstraintref52_writer_frame_s1 fuel f_a1 c_0 = some res) : Spec Tryz.prog 71 [.ref b_o0 0 [], enc_S_api_Frame f_a1] [.cell b_o0 (enc_S_constraintref52_writer c_0)] (fun d σ => d = .tup [] ∧ σ = [.cell b_o0 (enc_S_constraintref52_writer res)]) := by
  unfold lf_Pconstraintref52_writer_frame_s1 at hr
  refine spec_env [(0, .ref b_o0 0 []), (1, enc_S_api_Frame f_a1)] Tryz.func71 rfl rfl fun K hK => ?_
  refine g_seq ?_
  refine g_run (by kernel_rfl) [(0, .d)] rfl ?_
  refine r_d rfl rfl rfl (s_box rfl rfl rfl) ?_
  refine r_end ?_
  refine g_seq ?_
  refine g_run (by kernel_rfl) [(0, .d), (1, .d), (2, .d), (3, .w)] rfl ?_
  refine r_d rfl rfl rfl (s_move rfl rfl) ?_
  refine r_d rfl rfl rfl (s_fieldAddr rfl fl_api_Frame_1 rfl rfl (by simp [szs, sz, sz_encG]) rfl) ?_
  refine r_d rfl rfl rfl (s_load rfl rfl (by exact ty_int) rfl) ?_
  obtain ⟨r_1, hr_1, hr⟩ := bindS hr
  refine r_w rfl rfl rfl (s_call _ rfl cl_Pconstraintref52_writer_num (.cons rfl (Wk.refl _) (.cons rfl (Wk.refl _) (.cons rfl (Wk.refl _) (.cons rfl (Wk.refl _) .nil)))) (by exact (pf0 _)) (lg_Pconstraintref52_writer_num_s1 _ _ _ _ _ _ hr_1)) ?_
  rintro _ _ ⟨_, ⟨rfl, rfl⟩, rfl⟩
  refine r_st ((.cell b_o0 (enc_S_constraintref52_writer r_1)) :: _) rfl ?_
  refine r_end ?_
  refine g_seq ?_
  refine g_run (by kernel_rfl) [(0, .d), (1, .d), (2, .d), (3, .w)] rfl ?_
  refine r_d rfl rfl rfl (s_move rfl rfl) ?_
  refine r_d rfl rfl rfl (s_fieldAddr rfl fl_api_Frame_2 rfl rfl (by simp [szs, sz, sz_encG]) rfl) ?_
  refine r_d rfl rfl rfl (s_load rfl rfl (by exact ty_int) rfl) ?_
  obtain ⟨r_2, hr_2, hr⟩ := bindS hr
  refine r_w rfl rfl rfl (s_call _ rfl cl_Pconstraintref52_writer_num (.cons rfl (Wk.refl _) (.cons rfl (Wk.refl _) (.cons rfl (Wk.refl _) (.cons rfl (Wk.refl _) .nil)))) (by exact (pf0 _)) (lg_Pconstraintref52_writer_num_s1 _ _ _ _ _ _ hr_2)) ?_
  rintro _ _ ⟨_, ⟨rfl, rfl⟩, rfl⟩
  refine r_st ((.cell b_o0 (enc_S_constraintref52_writer r_2)) :: _) rfl ?_
  refine r_end ?_
  refine g_seq ?_
  refine g_seq ?_
  refine g_run (by kernel_rfl) [(0, .d), (1, .d), (2, .d)] rfl ?_
  refine r_d rfl rfl rfl (s_fieldAddr rfl fl_api_Frame_1 rfl rfl (by simp [szs, sz, sz_encG]) rfl) ?_
  refine r_d rfl rfl rfl (s_load rfl rfl (by exact ty_int) rfl) ?_
  refine r_d rfl rfl rfl (s_cmp rfl rfl rfl rfl) ?_
  refine r_end ?_
  refine g_sB 14 rfl hr (fun h14_2 hr => ?_) (fun h14_2 hr => ?_)
  ·
   refine g_condT rfl ?_
   refine g_seq ?_
   refine g_run (by kernel_rfl) [(0, .d), (1, .d), (2, .d), (3, .w)] rfl ?_
   refine r_d rfl rfl rfl (s_move rfl rfl) ?_
   refine r_d rfl rfl rfl (s_fieldAddr rfl fl_api_Frame_0 rfl rfl rfl rfl) ?_
   refine r_d rfl rfl rfl (s_load rfl rfl (by exact ty_api_Goal) (sz_encG _)) ?_
   obtain ⟨r_4, hr_4, hr⟩ := bindS hr
   refine r_w rfl rfl rfl (s_call _ rfl cl_Pconstraintref52_writer_goal (.cons rfl (Wk.refl _) (.cons rfl (Wk.refl _) .nil)) (by exact (pf0 _)) (lg_Pconstraintref52_writer_goal_s1 fuel _ _ _ _ hr_4)) ?_
   rintro _ _ ⟨_, ⟨rfl, rfl⟩, rfl⟩
   refine r_st ((.cell b_o0 (enc_S_constraintref52_writer r_4)) :: _) rfl ?_
   refine r_end ?_
   obtain rfl := Option.some.inj hr
   refine g_ret Tryz.func71 _ .nil ?_
   exact ⟨rfl, rfl⟩
  ·
   refine g_condF rfl ?_
   refine g_skip ?_
   refine g_run (by kernel_rfl) [(0, .d), (1, .d), (2, .d), (3, .d), (4, .r), (5, .d), (6, .d), (7, .d), (8, .d), (9, .d), (10, .d), (11, .d), (12, .d), (13, .d), (14, .d), (15, .d), (16, .d), (17, .d), (18, .d), (19, .d), (20, .d), (21, .d), (22, .d), (23, .d), (24, .d), (25, .d), (26, .w)] rfl ?_
   refine r_d rfl rfl rfl (s_move rfl rfl) ?_
   refine r_d rfl rfl rfl (s_move rfl rfl) ?_
   refine r_d rfl rfl rfl (s_nilCheckR rfl rfl) ?_
   refine r_d rfl rfl rfl (s_fieldRef rfl fl_constraintref52_writer_1 rfl) ?_
   refine r_r rfl rfl rfl (t_loadRef rfl rfl (.head _) rfl rfl (by exact ty_bool) rfl) ?_
   refine r_d rfl rfl rfl (s_move rfl rfl) ?_
   refine r_sB 24 rfl hr (fun h24_4 hr => ?_) (fun h24_4 hr => ?_)
   ·
    refine r_skip rfl rfl rfl ?_
    refine r_skip rfl rfl rfl ?_
    refine r_skip rfl rfl rfl ?_
    refine r_skip rfl rfl rfl ?_
    refine r_d rfl rfl rfl (s_pickT rfl rfl rfl) ?_
    refine r_d rfl rfl rfl (s_move rfl rfl) ?_
    refine r_skip rfl rfl rfl ?_
    refine r_skip rfl rfl rfl ?_
    refine r_skip rfl rfl rfl ?_
    refine r_skip rfl rfl rfl ?_
    refine r_d rfl rfl rfl (s_pickT rfl rfl rfl) ?_
    refine r_d rfl rfl rfl (s_move rfl rfl) ?_
    refine r_skip rfl rfl rfl ?_
    refine r_skip rfl rfl rfl ?_
    refine r_skip rfl rfl rfl ?_
    refine r_skip rfl rfl rfl ?_
    refine r_skip rfl rfl rfl ?_
    refine r_d rfl rfl rfl (s_pickT rfl rfl rfl) ?_
    refine r_d rfl rfl rfl (s_nilCheckR rfl rfl) ?_
    refine r_d rfl rfl rfl (s_fieldRef rfl fl_constraintref52_writer_1 rfl) ?_
    refine r_w01 rfl rfl rfl (t_store _ rfl rfl rfl (Wk.refl _) (pf0 _) rfl rfl (by exact ty_bool) rfl rfl rfl) ?_
    refine r_end ?_
    obtain rfl := Option.some.inj hr
    refine g_end Tryz.func71 _ .nil ?_
    exact ⟨rfl, rfl⟩
   ·
    refine r_d rfl rfl rfl (s_fieldAddr rfl fl_api_Frame_0 rfl rfl rfl rfl) ?_
    refine r_d rfl rfl rfl (s_fieldAddr rfl fl_api_Goal_0 rfl rfl rfl rfl) ?_
    refine r_d rfl rfl rfl (s_load rfl rfl (by exact ty_int) rfl) ?_
    refine r_d rfl rfl rfl (s_cmp rfl rfl rfl rfl) ?_
    refine r_d rfl rfl rfl (s_pickF rfl rfl rfl) ?_
    refine r_d rfl rfl rfl (s_move rfl rfl) ?_
    refine r_sB 30 rfl hr (fun h30_5 hr => ?_) (fun h30_5 hr => ?_)
    ·
     refine r_skip rfl rfl rfl ?_
     refine r_skip rfl rfl rfl ?_
     refine r_skip rfl rfl rfl ?_
     refine r_skip rfl rfl rfl ?_
     refine r_d rfl rfl rfl (s_pickT rfl rfl rfl) ?_
     refine r_d rfl rfl rfl (s_move rfl rfl) ?_
     refine r_skip rfl rfl rfl ?_
     refine r_skip rfl rfl rfl ?_
     refine r_skip rfl rfl rfl ?_
     refine r_skip rfl rfl rfl ?_
     refine r_skip rfl rfl rfl ?_
     refine r_d rfl rfl rfl (s_pickT rfl rfl rfl) ?_
     refine r_d rfl rfl rfl (s_nilCheckR rfl rfl) ?_
     refine r_d rfl rfl rfl (s_fieldRef rfl fl_constraintref52_writer_1 rfl) ?_
     refine r_w01 rfl rfl rfl (t_store _ rfl rfl rfl (Wk.refl _) (pf0 _) rfl rfl (by exact ty_bool) rfl rfl rfl) ?_
     refine r_end ?_
     obtain rfl := Option.some.inj hr
     refine g_end Tryz.func71 _ .nil ?_
     exact ⟨rfl, rfl⟩
    ·
     refine r_d rfl rfl rfl (s_fieldAddr rfl fl_api_Frame_0 rfl rfl rfl rfl) ?_
     refine r_d rfl rfl rfl (s_fieldAddr rfl fl_api_Goal_1 rfl rfl rfl rfl) ?_
     refine r_d rfl rfl rfl (s_load rfl rfl (by exact ty_string) rfl) ?_
     refine r_d rfl rfl rfl (s_cmpS rfl rfl rfl rfl) ?_
     refine r_d rfl rfl rfl (s_pickF rfl rfl rfl) ?_
     refine r_d rfl rfl rfl (s_move rfl rfl) ?_
     refine r_sB 36 rfl hr (fun h36_6 hr => ?_) (fun h36_6 hr => ?_)
     ·
      refine r_skip rfl rfl rfl ?_
      refine r_skip rfl rfl rfl ?_
      refine r_skip rfl rfl rfl ?_
      refine r_skip rfl rfl rfl ?_
      refine r_skip rfl rfl rfl ?_
      refine r_d rfl rfl rfl (s_pickT rfl rfl rfl) ?_
      refine r_d rfl rfl rfl (s_nilCheckR rfl rfl) ?_
      refine r_d rfl rfl rfl (s_fieldRef rfl fl_constraintref52_writer_1 rfl) ?_
      refine r_w01 rfl rfl rfl (t_store _ rfl rfl rfl (Wk.refl _) (pf0 _) rfl rfl (by exact ty_bool) rfl rfl rfl) ?_
      refine r_end ?_
      obtain rfl := Option.some.inj hr
      refine g_end Tryz.func71 _ .nil ?_
      exact ⟨rfl, rfl⟩
     ·
      refine r_d rfl rfl rfl (s_fieldAddr rfl fl_api_Frame_0 rfl rfl rfl rfl) ?_
      refine r_d rfl rfl rfl (s_fieldAddr rfl fl_api_Goal_2 rfl rfl rfl rfl) ?_
      refine r_d rfl rfl rfl (s_load rfl rfl (by exact ty_L_api_Term) rfl) ?_
      refine r_d rfl rfl rfl (m_len (f := encT) f_a1.f0_Goal.ts rfl el_L_api_Term rfl (asl rfl)) ?_
      refine r_d rfl rfl rfl (s_cmp rfl rfl rfl rfl) ?_
      refine r_d rfl rfl rfl (s_pickF rfl rfl rfl) ?_
      refine r_d rfl rfl rfl (s_nilCheckR rfl rfl) ?_
      refine r_d rfl rfl rfl (s_fieldRef rfl fl_constraintref52_writer_1 rfl) ?_
      refine r_w01 rfl rfl rfl (t_store _ rfl rfl rfl (Wk.refl _) (pf0 _) rfl rfl (by exact ty_bool) rfl rfl rfl) ?_
      refine r_end ?_
      obtain rfl := Option.some.inj hr
      refine g_end Tryz.func71 _ .nil ?_
      exact ⟨rfl, rfl⟩

noncomputable def lf_Pconstraintref52_writer_nums_s1_L0 (k : (S_constraintref52_writer) → Option (S_constraintref52_writer)) (high_a3 : Int) : List Int → S_constraintref52_writer → Option (S_constraintref52_writer)
  | [], w_3 =>
  (k w_3)
  | q_5 :: rest, w_3 =>
  (bif (!w_3.f1_bad) then
  ((lf_Pconstraintref52_writer_num_s1 q_5 0 high_a3 w_3).bind fun r_7 =>
  (lf_Pconstraintref52_writer_nums_s1_L0 k high_a3 rest r_7))
  else
  (k w_3))
noncomputable def lf_Pconstraintref52_writer_nums_s1 (l_a1 : (List Int)) (most_a2 : Int) (high_a3 : Int) (c_0 : S_constraintref52_writer) : Option (S_constraintref52_writer) :=
  ((lf_Pconstraintref52_writer_num_s1 (l_a1.length : Int) 0 most_a2 c_0).bind fun r_1 =>
  (lf_Pconstraintref52_writer_nums_s1_L0 (fun w_4 =>
  some (w_4)) high_a3 l_a1 r_1))

set_option maxHeartbeats 1000000 in
theorem lg_Pconstraintref52_writer_nums_s1 (l_a1 : (List Int)) (most_a2 : Int) (high_a3 : Int) (c_0 : S_constraintref52_writer) (b_o0 : Nat) (res : S_constraintref52_writer) (hr : lf_Pconstraintref52_writer_nums_s1 l_a1 most_a2 high_a3 c_0 = some res) : Spec Tryz.prog 74 [.ref b_o0 0 [], .lst (l_a1.map (D.int .i64)), .int .i64 most_a2, .int .i64 high_a3] [.cell b_o0 (enc_S_constraintref52_writer c_0)] (fun d σ => d = .tup [] ∧ σ = [.cell b_o0 (enc_S_constraintref52_writer res)]) := by
  unfold lf_Pconstraintref52_writer_nums_s1 at hr
  refine spec_env [(0, .ref b_o0 0 []), (1, .lst (l_a1.map (D.int .i64))), (2, .int .i64 most_a2), (3, .int .i64 high_a3)] Tryz.func74 rfl rfl fun K hK => ?_
  refine g_seq ?_
  refine g_run (by kernel_rfl) [(0, .d), (1, .d), (2, .d), (3, .d), (4, .w)] rfl ?_
  refine r_d rfl rfl rfl (s_move rfl rfl) ?_
  refine r_d rfl rfl rfl (s_move rfl rfl) ?_
  refine r_d rfl rfl rfl (m_len (f := (D.int .i64)) l_a1 rfl el_L_int rfl (asl rfl)) ?_
  refine r_d rfl rfl rfl (s_move rfl rfl) ?_
  obtain ⟨r_1, hr_1, hr⟩ := bindS hr
  refine r_w rfl rfl rfl (s_call _ rfl cl_Pconstraintref52_writer_num (.cons rfl (Wk.refl _) (.cons rfl (Wk.refl _) (.cons rfl (Wk.refl _) (.cons rfl (Wk.refl _) .nil)))) (by exact (pf0 _)) (lg_Pconstraintref52_writer_num_s1 _ _ _ _ _ _ hr_1)) ?_
  rintro _ _ ⟨_, ⟨rfl, rfl⟩, rfl⟩
  refine r_st ((.cell b_o0 (enc_S_constraintref52_writer r_1)) :: _) rfl ?_
  refine r_end ?_
  refine g_seq ?_
  refine g_run (by kernel_rfl) [(0, .d)] rfl ?_
  refine r_d rfl rfl rfl (s_assign rfl rfl) ?_
  refine r_end ?_
  obtain ⟨kk0, hkk0, hr⟩ := exK (fun k => lf_Pconstraintref52_writer_nums_s1_L0 k high_a3 l_a1 r_1) hr
  refine g_len 1 rfl (asl rfl) fun hla0 => ?_
  simp only [List.length_map] at hla0
  refine g_blockJ (fun env σ => ∃ (w_4 : S_constraintref52_writer), env = [] ∧ σ = [.cell b_o0 (enc_S_constraintref52_writer w_4)] ∧ kk0 w_4 = some res) ?_ (fun HK0 => ?_)
  ·
   rintro _ _ ⟨w_4, rfl, rfl, hr⟩
   rw [hkk0] at hr
   obtain rfl := Option.some.inj hr
   refine g_end Tryz.func74 _ .nil ?_
   exact ⟨rfl, rfl⟩
  ·
   refine g_sub [(0, .ref b_o0 0 []), (1, .lst (l_a1.map (D.int .i64))), (3, .int .i64 high_a3), (8, .int .i64 ((0 : Nat) : Int))] (Sub.cons' rfl (Sub.cons' rfl (Sub.cons' rfl (Sub.cons' rfl (Sub.nil _))))) ?_
   refine g_loop (fun n env σ => ∃ (i_2 : Nat) (w_3 : S_constraintref52_writer), (n = l_a1.length - i_2) ∧ (env = [(0, .ref b_o0 0 []), (1, .lst (l_a1.map (D.int .i64))), (3, .int .i64 high_a3), (8, .int .i64 (i_2 : Int))]) ∧ (σ = [.cell b_o0 (enc_S_constraintref52_writer w_3)]) ∧ (i_2 ≤ l_a1.length) ∧ (lf_Pconstraintref52_writer_nums_s1_L0 kk0 high_a3 (l_a1.drop i_2) w_3 = some res)) _ ⟨0, r_1, rfl, rfl, rfl, Nat.zero_le _, hr⟩ ?_
   rintro n _ _ ⟨i_2, w_3, rfl, rfl, rfl, hi0, hr⟩ IH0
   rcases listStep l_a1 i_2 hi0 with ⟨ht0, hd0, he0⟩ | ⟨q_5, ht0, hd0, hq0, hlt0⟩
   ·
    rw [hd0, lf_Pconstraintref52_writer_nums_s1_L0] at hr
    refine g_seq ?_
    refine g_seq ?_
    refine g_run (by kernel_rfl) [(0, .d), (1, .d), (2, .d), (3, .d), (4, .d), (5, .d), (6, .d), (7, .d), (8, .r), (9, .d), (10, .d)] rfl ?_
    refine r_d rfl rfl rfl (s_move rfl rfl) ?_
    refine r_d rfl rfl rfl (s_move rfl rfl) ?_
    refine r_d rfl rfl rfl (m_len (f := (D.int .i64)) l_a1 rfl el_L_int rfl (asl rfl)) ?_
    refine r_d rfl rfl rfl (s_cmp rfl rfl rfl rfl) ?_
    refine r_d rfl rfl rfl (s_move rfl rfl) ?_
    refine r_known 18 false rfl ht0 ?_
    refine r_skip rfl rfl rfl ?_
    refine r_skip rfl rfl rfl ?_
    refine r_skip rfl rfl rfl ?_
    refine r_skip rfl rfl rfl ?_
    refine r_skip rfl rfl rfl ?_
    refine r_d rfl rfl rfl (s_pickF rfl rfl rfl) ?_
    refine r_end ?_
    refine g_condF rfl ?_
    refine g_exit rfl ?_
    refine g_sub [] (Sub.nil _) ?_
    exact HK0 _ _ ⟨w_3, rfl, rfl, hr⟩
   ·
    rw [hd0, lf_Pconstraintref52_writer_nums_s1_L0] at hr
    refine g_seq ?_
    refine g_seq ?_
    refine g_run (by kernel_rfl) [(0, .d), (1, .d), (2, .d), (3, .d), (4, .d), (5, .d), (6, .d), (7, .d), (8, .r), (9, .d), (10, .d)] rfl ?_
    refine r_d rfl rfl rfl (s_move rfl rfl) ?_
    refine r_d rfl rfl rfl (s_move rfl rfl) ?_
    refine r_d rfl rfl rfl (m_len (f := (D.int .i64)) l_a1 rfl el_L_int rfl (asl rfl)) ?_
    refine r_d rfl rfl rfl (s_cmp rfl rfl rfl rfl) ?_
    refine r_d rfl rfl rfl (s_move rfl rfl) ?_
    refine r_known 18 true rfl ht0 ?_
    refine r_d rfl rfl rfl (s_move rfl rfl) ?_
    refine r_d rfl rfl rfl (s_nilCheckR rfl rfl) ?_
    refine r_d rfl rfl rfl (s_fieldRef rfl fl_constraintref52_writer_1 rfl) ?_
    refine r_r rfl rfl rfl (t_loadRef rfl rfl (.head _) rfl rfl (by exact ty_bool) rfl) ?_
    refine r_d rfl rfl rfl (s_not rfl rfl) ?_
    refine r_d rfl rfl rfl (s_pickT rfl rfl rfl) ?_
    refine r_end ?_
    refine g_sB 24 rfl hr (fun h24_5 hr => ?_) (fun h24_5 hr => ?_)
    ·
     refine g_condT rfl ?_
     refine g_skip ?_
     refine g_seq ?_
     refine g_block ?_
     refine g_run (by kernel_rfl) [(0, .d), (1, .d), (2, .d), (3, .d), (4, .d), (5, .d), (6, .w)] rfl ?_
     refine r_d rfl rfl rfl (s_move rfl rfl) ?_
     refine r_d rfl rfl rfl (s_move rfl rfl) ?_
     refine r_d rfl rfl rfl (s_move rfl rfl) ?_
     refine r_d rfl rfl rfl (m_index (f := (D.int .i64)) l_a1 rfl el_L_int rfl (asl rfl) rfl hq0 (fun _ => rfl) rfl) ?_
     refine r_d rfl rfl rfl (s_load rfl rfl (by exact ty_int) rfl) ?_
     refine r_d rfl rfl rfl (s_move rfl rfl) ?_
     obtain ⟨r_7, hr_7, hr⟩ := bindS hr
     refine r_w rfl rfl rfl (s_call _ rfl cl_Pconstraintref52_writer_num (.cons rfl (Wk.refl _) (.cons rfl (Wk.refl _) (.cons rfl (Wk.refl _) (.cons rfl (Wk.refl _) .nil)))) (by exact (pf0 _)) (lg_Pconstraintref52_writer_num_s1 _ _ _ _ _ _ hr_7)) ?_
     rintro _ _ ⟨_, ⟨rfl, rfl⟩, rfl⟩
     refine r_st ((.cell b_o0 (enc_S_constraintref52_writer r_7)) :: _) rfl ?_
     refine r_end ?_
     refine g_inBlock ?_
     refine g_run (by kernel_rfl) [(0, .d), (1, .d), (2, .d)] rfl ?_
     refine r_d rfl rfl rfl (s_move rfl rfl) ?_
     refine r_d rfl rfl rfl (s_ar (r := ((i_2 + 1 : Nat) : Int)) rfl rfl rfl (by simp [iar]) (by omega)) ?_
     refine r_d rfl rfl rfl (s_assign rfl rfl) ?_
     refine r_end ?_
     refine g_sub [(0, .ref b_o0 0 []), (1, .lst (l_a1.map (D.int .i64))), (3, .int .i64 high_a3), (8, .int .i64 ((i_2 + 1 : Nat) : Int))] (Sub.cons' rfl (Sub.cons' rfl (Sub.cons' rfl (Sub.cons' rfl (Sub.nil _))))) ?_
     exact IH0 _ _ _ (by omega) ⟨(i_2 + 1), r_7, rfl, rfl, rfl, (by omega), hr⟩
    ·
     refine g_condF rfl ?_
     refine g_exit rfl ?_
     refine g_sub [] (Sub.nil _) ?_
     exact HK0 _ _ ⟨w_3, rfl, rfl, hr⟩

noncomputable def lf_Pconstraintref52_writer_flag_s1 (x_a1 : Bool) (c_0 : S_constraintref52_writer) : Option (S_constraintref52_writer) :=
  ((x_cPutBool c_0.f0_b x_a1).bind fun r_1 =>
  some ((⟨r_1, c_0.f1_bad⟩ : S_constraintref52_writer)))

set_option maxHeartbeats 1000000 in
theorem lg_Pconstraintref52_writer_flag_s1 (x_a1 : Bool) (c_0 : S_constraintref52_writer) (b_o0 : Nat) (res : S_constraintref52_writer) (hr : lf_Pconstraintref52_writer_flag_s1 x_a1 c_0 = some res) : Spec Tryz.prog 75 [.ref b_o0 0 [], .bool x_a1] [.cell b_o0 (enc_S_constraintref52_writer c_0)] (fun d σ => d = .tup [] ∧ σ = [.cell b_o0 (enc_S_constraintref52_writer res)]) := by
  unfold lf_Pconstraintref52_writer_flag_s1 at hr
  refine spec_env [(0, .ref b_o0 0 []), (1, .bool x_a1)] Tryz.func75 rfl rfl fun K hK => ?_
  refine g_run (by kernel_rfl) [(0, .d), (1, .d), (2, .d), (3, .d), (4, .r), (5, .d), (6, .d), (7, .d), (8, .d), (9, .w)] rfl ?_
  refine r_d rfl rfl rfl (s_move rfl rfl) ?_
  refine r_d rfl rfl rfl (s_move rfl rfl) ?_
  refine r_d rfl rfl rfl (s_nilCheckR rfl rfl) ?_
  refine r_d rfl rfl rfl (s_fieldRef rfl fl_constraintref52_writer_0 rfl) ?_
  refine r_r rfl rfl rfl (t_loadRef rfl rfl (.head _) rfl rfl (by exact ty_L_uint8) rfl) ?_
  refine r_d rfl rfl rfl (s_move rfl rfl) ?_
  obtain ⟨r_1, hr_1, hr⟩ := bindS hr
  refine r_d rfl rfl rfl (s_callD rfl cl_constraintref01_PutBool (.cons rfl (Wk.refl _) (.cons rfl (Wk.refl _) .nil)) (lx_constraintref01_PutBool _ _ _ hr_1)) ?_
  refine r_d rfl rfl rfl (s_nilCheckR rfl rfl) ?_
  refine r_d rfl rfl rfl (s_fieldRef rfl fl_constraintref52_writer_0 rfl) ?_
  refine r_w01 rfl rfl rfl (t_store _ rfl rfl rfl (Wk.refl _) (pf0 _) rfl rfl (by exact ty_L_uint8) rfl rfl rfl) ?_
  refine r_end ?_
  obtain rfl := Option.some.inj hr
  refine g_end Tryz.func75 _ .nil ?_
  exact ⟨rfl, rfl⟩

noncomputable def lf_constraintref52_Config_L3 (k : (S_constraintref52_writer) → Option ((List Int))) : List S_api_Fire → S_constraintref52_writer → Option ((List Int))
  | [], w_17 =>
  (k w_17)
  | q_23 :: rest, w_17 =>
  (bif (!w_17.f1_bad) then
  ((lf_Pconstraintref52_writer_num_s1 q_23.f0_Rule 0 40 w_17).bind fun r_25 =>
  ((lf_Pconstraintref52_writer_nums_s1 q_23.f1_IDs 4 2147483648 r_25).bind fun r_26 =>
  (lf_constraintref52_Config_L3 k rest r_26)))
  else
  (k w_17))

noncomputable def lf_constraintref52_Config_L2 (k : (S_constraintref52_writer) → Option ((List Int))) (fuel : Nat) : List (Int × T) → S_constraintref52_writer → Option ((List Int))
  | [], w_13 =>
  (k w_13)
  | q_27 :: rest, w_13 =>
  (bif (!w_13.f1_bad) then
  ((lf_Pconstraintref52_writer_num_s1 q_27.1 0 1048576 w_13).bind fun r_29 =>
  ((lf_Pconstraintref52_writer_term_s1 fuel q_27.2 r_29).bind fun r_30 =>
  (lf_constraintref52_Config_L2 k fuel rest r_30)))
  else
  (k w_13))

noncomputable def lf_constraintref52_Config_L1 (k : (S_constraintref52_writer) → Option ((List Int))) (fuel : Nat) : List (Int × At) → S_constraintref52_writer → Option ((List Int))
  | [], w_9 =>
  (k w_9)
  | q_31 :: rest, w_9 =>
  (bif (!w_9.f1_bad) then
  ((lf_Pconstraintref52_writer_num_s1 q_31.1 0 2147483648 w_9).bind fun r_33 =>
  ((lf_Pconstraintref52_writer_atom_s1 fuel q_31.2 r_33).bind fun r_34 =>
  (lf_constraintref52_Config_L1 k fuel rest r_34)))
  else
  (k w_9))

noncomputable def lf_constraintref52_Config_L0 (k : (S_constraintref52_writer) → Option ((List Int))) (fuel : Nat) : List S_api_Frame → S_constraintref52_writer → Option ((List Int))
  | [], t9_5 =>
  (k t9_5)
  | q_35 :: rest, t9_5 =>
  (bif (!t9_5.f1_bad) then
  ((lf_Pconstraintref52_writer_frame_s1 fuel q_35 t9_5).bind fun r_37 =>
  (lf_constraintref52_Config_L0 k fuel rest r_37))
  else
  (k t9_5))
noncomputable def lf_constraintref52_Config (fuel : Nat) (c_a0 : S_api_Config) : Option ((List Int)) :=
  ((lf_Pconstraintref52_writer_num_s1 2 2 2 (⟨[], false⟩ : S_constraintref52_writer)).bind fun r_2 =>
  ((lf_Pconstraintref52_writer_num_s1 (c_a0.f0_Stack.length : Int) 0 1000 r_2).bind fun r_3 =>
  (lf_constraintref52_Config_L0 (fun t9_6 =>
  ((lf_Pconstraintref52_writer_num_s1 (c_a0.f1_Store.length : Int) 0 500 t9_6).bind fun r_7 =>
  (lf_constraintref52_Config_L1 (fun w_10 =>
  ((lf_Pconstraintref52_writer_num_s1 (c_a0.f2_Binds.length : Int) 0 1048576 w_10).bind fun r_11 =>
  (lf_constraintref52_Config_L2 (fun w_14 =>
  ((lf_Pconstraintref52_writer_num_s1 (c_a0.f3_Fired.length : Int) 0 5000 w_14).bind fun r_15 =>
  (lf_constraintref52_Config_L3 (fun w_18 =>
  ((lf_Pconstraintref52_writer_num_s1 c_a0.f4_Next 0 2147483648 w_18).bind fun r_19 =>
  ((lf_Pconstraintref52_writer_num_s1 c_a0.f5_Fresh 0 1048576 r_19).bind fun r_20 =>
  ((lf_Pconstraintref52_writer_flag_s1 c_a0.f6_Failed r_20).bind fun r_21 =>
  ((lf_Pconstraintref52_writer_bytes_s1 r_21).bind fun r_22 =>
  some (r_22)))))) c_a0.f3_Fired r_15))) fuel c_a0.f2_Binds r_11))) fuel c_a0.f1_Store r_7))) fuel c_a0.f0_Stack r_3)))

set_option maxHeartbeats 1000000 in
theorem lg_constraintref52_Config (fuel : Nat) (c_a0 : S_api_Config) (res : (List Int)) (hr : lf_constraintref52_Config fuel c_a0 = some res) : Gives Tryz.prog 18 [enc_S_api_Config c_a0] (.lst (res.map (D.int .u8))) := by
  unfold lf_constraintref52_Config at hr
  refine spec_env [(0, enc_S_api_Config c_a0)] Tryz.func18 rfl rfl fun K hK => ?_
  refine g_seq ?_
  refine g_run (by kernel_rfl) [(0, .d), (1, .d)] rfl ?_
  refine r_d rfl rfl rfl (s_box rfl rfl rfl) ?_
  refine r_d rfl rfl rfl (s_assign rfl rfl) ?_
  refine r_end ?_
  refine g_seq ?_
  refine g_run (by kernel_rfl) [(0, .d), (1, .w), (2, .d)] rfl ?_
  refine r_d rfl rfl rfl (s_build rfl bt_constraintref52_writer .nil (.nil _)) ?_
  refine r_w rfl rfl rfl (s_boxRef rfl rfl rfl) ?_
  rintro _ _ ⟨b9_0, rfl, rfl⟩
  refine r_d rfl rfl rfl (s_assign rfl rfl) ?_
  refine r_end ?_
  refine g_seq ?_
  refine g_run (by kernel_rfl) [(0, .d), (1, .w)] rfl ?_
  refine r_d rfl rfl rfl (s_move rfl rfl) ?_
  obtain ⟨r_2, hr_2, hr⟩ := bindS hr
  refine r_w rfl rfl rfl (s_call _ rfl cl_Pconstraintref52_writer_num (.cons rfl (Wk.refl _) (.cons rfl (Wk.refl _) (.cons rfl (Wk.refl _) (.cons rfl (Wk.refl _) .nil)))) (by exact (pf0 _)) (lg_Pconstraintref52_writer_num_s1 _ _ _ _ _ _ hr_2)) ?_
  rintro _ _ ⟨_, ⟨rfl, rfl⟩, rfl⟩
  refine r_st ((.cell b9_0 (enc_S_constraintref52_writer r_2)) :: _) rfl ?_
  refine r_end ?_
  refine g_seq ?_
  refine g_run (by kernel_rfl) [(0, .d), (1, .d), (2, .d), (3, .d), (4, .w)] rfl ?_
  refine r_d rfl rfl rfl (s_move rfl rfl) ?_
  refine r_d rfl rfl rfl (s_fieldAddr rfl fl_api_Config_0 rfl rfl rfl rfl) ?_
  refine r_d rfl rfl rfl (s_load rfl rfl (by exact ty_L_api_Frame) rfl) ?_
  refine r_d rfl rfl rfl (m_len (f := enc_S_api_Frame) c_a0.f0_Stack rfl el_L_api_Frame rfl (asl rfl)) ?_
  obtain ⟨r_3, hr_3, hr⟩ := bindS hr
  refine r_w rfl rfl rfl (s_call _ rfl cl_Pconstraintref52_writer_num (.cons rfl (Wk.refl _) (.cons rfl (Wk.refl _) (.cons rfl (Wk.refl _) (.cons rfl (Wk.refl _) .nil)))) (by exact (pf0 _)) (lg_Pconstraintref52_writer_num_s1 _ _ _ _ _ _ hr_3)) ?_
  rintro _ _ ⟨_, ⟨rfl, rfl⟩, rfl⟩
  refine r_st ((.cell b9_0 (enc_S_constraintref52_writer r_3)) :: _) rfl ?_
  refine r_end ?_
  refine g_seq ?_
  refine g_seq ?_
  refine g_run (by kernel_rfl) [(0, .d)] rfl ?_
  refine r_d rfl rfl rfl (s_assign rfl rfl) ?_
  refine r_end ?_
  obtain ⟨kk0, hkk0, hr⟩ := exK (fun k => lf_constraintref52_Config_L0 k fuel c_a0.f0_Stack r_3) hr
  refine g_len 14 rfl (asl rfl) fun hla0 => ?_
  simp only [List.length_map] at hla0
  refine g_blockJ (fun env σ => ∃ (t9_6 : S_constraintref52_writer), env = [(1, .ptr (enc_S_api_Config c_a0)), (3, .ref b9_0 0 [])] ∧ σ = [.cell b9_0 (enc_S_constraintref52_writer t9_6)] ∧ kk0 t9_6 = some res) ?_ (fun HK0 => ?_)
  ·
   rintro _ _ ⟨t9_6, rfl, rfl, hr⟩
   rw [hkk0] at hr
   refine g_seq ?_
   refine g_run (by kernel_rfl) [(0, .d), (1, .d), (2, .d), (3, .d), (4, .w)] rfl ?_
   refine r_d rfl rfl rfl (s_move rfl rfl) ?_
   refine r_d rfl rfl rfl (s_fieldAddr rfl fl_api_Config_1 rfl rfl rfl rfl) ?_
   refine r_d rfl rfl rfl (s_load rfl rfl (by exact ty_L_api_Item) rfl) ?_
   refine r_d rfl rfl rfl (m_len (f := encIt) c_a0.f1_Store rfl el_L_api_Item rfl (asl rfl)) ?_
   obtain ⟨r_7, hr_7, hr⟩ := bindS hr
   refine r_w rfl rfl rfl (s_call _ rfl cl_Pconstraintref52_writer_num (.cons rfl (Wk.refl _) (.cons rfl (Wk.refl _) (.cons rfl (Wk.refl _) (.cons rfl (Wk.refl _) .nil)))) (by exact (pf0 _)) (lg_Pconstraintref52_writer_num_s1 _ _ _ _ _ _ hr_7)) ?_
   rintro _ _ ⟨_, ⟨rfl, rfl⟩, rfl⟩
   refine r_st ((.cell b9_0 (enc_S_constraintref52_writer r_7)) :: _) rfl ?_
   refine r_end ?_
   refine g_seq ?_
   refine g_seq ?_
   refine g_run (by kernel_rfl) [(0, .d)] rfl ?_
   refine r_d rfl rfl rfl (s_assign rfl rfl) ?_
   refine r_end ?_
   obtain ⟨kk1, hkk1, hr⟩ := exK (fun k => lf_constraintref52_Config_L1 k fuel c_a0.f1_Store r_7) hr
   refine g_len 40 rfl (asl rfl) fun hla1 => ?_
   simp only [List.length_map] at hla1
   refine g_blockJ (fun env σ => ∃ (w_10 : S_constraintref52_writer), env = [(1, .ptr (enc_S_api_Config c_a0)), (3, .ref b9_0 0 [])] ∧ σ = [.cell b9_0 (enc_S_constraintref52_writer w_10)] ∧ kk1 w_10 = some res) ?_ (fun HK1 => ?_)
   ·
    rintro _ _ ⟨w_10, rfl, rfl, hr⟩
    rw [hkk1] at hr
    refine g_seq ?_
    refine g_run (by kernel_rfl) [(0, .d), (1, .d), (2, .d), (3, .d), (4, .w)] rfl ?_
    refine r_d rfl rfl rfl (s_move rfl rfl) ?_
    refine r_d rfl rfl rfl (s_fieldAddr rfl fl_api_Config_2 rfl rfl rfl rfl) ?_
    refine r_d rfl rfl rfl (s_load rfl rfl (by exact ty_api_Binds) rfl) ?_
    refine r_d rfl rfl rfl (m_len (f := encP) c_a0.f2_Binds rfl el_api_Binds rfl (asl rfl)) ?_
    obtain ⟨r_11, hr_11, hr⟩ := bindS hr
    refine r_w rfl rfl rfl (s_call _ rfl cl_Pconstraintref52_writer_num (.cons rfl (Wk.refl _) (.cons rfl (Wk.refl _) (.cons rfl (Wk.refl _) (.cons rfl (Wk.refl _) .nil)))) (by exact (pf0 _)) (lg_Pconstraintref52_writer_num_s1 _ _ _ _ _ _ hr_11)) ?_
    rintro _ _ ⟨_, ⟨rfl, rfl⟩, rfl⟩
    refine r_st ((.cell b9_0 (enc_S_constraintref52_writer r_11)) :: _) rfl ?_
    refine r_end ?_
    refine g_seq ?_
    refine g_seq ?_
    refine g_run (by kernel_rfl) [(0, .d)] rfl ?_
    refine r_d rfl rfl rfl (s_assign rfl rfl) ?_
    refine r_end ?_
    obtain ⟨kk2, hkk2, hr⟩ := exK (fun k => lf_constraintref52_Config_L2 k fuel c_a0.f2_Binds r_11) hr
    refine g_len 75 rfl (asl rfl) fun hla2 => ?_
    simp only [List.length_map] at hla2
    refine g_blockJ (fun env σ => ∃ (w_14 : S_constraintref52_writer), env = [(1, .ptr (enc_S_api_Config c_a0)), (3, .ref b9_0 0 [])] ∧ σ = [.cell b9_0 (enc_S_constraintref52_writer w_14)] ∧ kk2 w_14 = some res) ?_ (fun HK2 => ?_)
    ·
     rintro _ _ ⟨w_14, rfl, rfl, hr⟩
     rw [hkk2] at hr
     refine g_seq ?_
     refine g_run (by kernel_rfl) [(0, .d), (1, .d), (2, .d), (3, .d), (4, .w)] rfl ?_
     refine r_d rfl rfl rfl (s_move rfl rfl) ?_
     refine r_d rfl rfl rfl (s_fieldAddr rfl fl_api_Config_3 rfl rfl rfl rfl) ?_
     refine r_d rfl rfl rfl (s_load rfl rfl (by exact ty_L_api_Fire) rfl) ?_
     refine r_d rfl rfl rfl (m_len (f := enc_S_api_Fire) c_a0.f3_Fired rfl el_L_api_Fire rfl (asl rfl)) ?_
     obtain ⟨r_15, hr_15, hr⟩ := bindS hr
     refine r_w rfl rfl rfl (s_call _ rfl cl_Pconstraintref52_writer_num (.cons rfl (Wk.refl _) (.cons rfl (Wk.refl _) (.cons rfl (Wk.refl _) (.cons rfl (Wk.refl _) .nil)))) (by exact (pf0 _)) (lg_Pconstraintref52_writer_num_s1 _ _ _ _ _ _ hr_15)) ?_
     rintro _ _ ⟨_, ⟨rfl, rfl⟩, rfl⟩
     refine r_st ((.cell b9_0 (enc_S_constraintref52_writer r_15)) :: _) rfl ?_
     refine r_end ?_
     refine g_seq ?_
     refine g_seq ?_
     refine g_run (by kernel_rfl) [(0, .d)] rfl ?_
     refine r_d rfl rfl rfl (s_assign rfl rfl) ?_
     refine r_end ?_
     obtain ⟨kk3, hkk3, hr⟩ := exK (fun k => lf_constraintref52_Config_L3 k c_a0.f3_Fired r_15) hr
     refine g_len 110 rfl (asl rfl) fun hla3 => ?_
     simp only [List.length_map] at hla3
     refine g_blockJ (fun env σ => ∃ (w_18 : S_constraintref52_writer), env = [(1, .ptr (enc_S_api_Config c_a0)), (3, .ref b9_0 0 [])] ∧ σ = [.cell b9_0 (enc_S_constraintref52_writer w_18)] ∧ kk3 w_18 = some res) ?_ (fun HK3 => ?_)
     ·
      rintro _ _ ⟨w_18, rfl, rfl, hr⟩
      rw [hkk3] at hr
      refine g_seq ?_
      refine g_run (by kernel_rfl) [(0, .d), (1, .d), (2, .d), (3, .w)] rfl ?_
      refine r_d rfl rfl rfl (s_move rfl rfl) ?_
      refine r_d rfl rfl rfl (s_fieldAddr rfl fl_api_Config_4 rfl rfl rfl rfl) ?_
      refine r_d rfl rfl rfl (s_load rfl rfl (by exact ty_int) rfl) ?_
      obtain ⟨r_19, hr_19, hr⟩ := bindS hr
      refine r_w rfl rfl rfl (s_call _ rfl cl_Pconstraintref52_writer_num (.cons rfl (Wk.refl _) (.cons rfl (Wk.refl _) (.cons rfl (Wk.refl _) (.cons rfl (Wk.refl _) .nil)))) (by exact (pf0 _)) (lg_Pconstraintref52_writer_num_s1 _ _ _ _ _ _ hr_19)) ?_
      rintro _ _ ⟨_, ⟨rfl, rfl⟩, rfl⟩
      refine r_st ((.cell b9_0 (enc_S_constraintref52_writer r_19)) :: _) rfl ?_
      refine r_end ?_
      refine g_seq ?_
      refine g_run (by kernel_rfl) [(0, .d), (1, .d), (2, .d), (3, .w)] rfl ?_
      refine r_d rfl rfl rfl (s_move rfl rfl) ?_
      refine r_d rfl rfl rfl (s_fieldAddr rfl fl_api_Config_5 rfl rfl rfl rfl) ?_
      refine r_d rfl rfl rfl (s_load rfl rfl (by exact ty_int) rfl) ?_
      obtain ⟨r_20, hr_20, hr⟩ := bindS hr
      refine r_w rfl rfl rfl (s_call _ rfl cl_Pconstraintref52_writer_num (.cons rfl (Wk.refl _) (.cons rfl (Wk.refl _) (.cons rfl (Wk.refl _) (.cons rfl (Wk.refl _) .nil)))) (by exact (pf0 _)) (lg_Pconstraintref52_writer_num_s1 _ _ _ _ _ _ hr_20)) ?_
      rintro _ _ ⟨_, ⟨rfl, rfl⟩, rfl⟩
      refine r_st ((.cell b9_0 (enc_S_constraintref52_writer r_20)) :: _) rfl ?_
      refine r_end ?_
      refine g_seq ?_
      refine g_run (by kernel_rfl) [(0, .d), (1, .d), (2, .d), (3, .w)] rfl ?_
      refine r_d rfl rfl rfl (s_move rfl rfl) ?_
      refine r_d rfl rfl rfl (s_fieldAddr rfl fl_api_Config_6 rfl rfl rfl rfl) ?_
      refine r_d rfl rfl rfl (s_load rfl rfl (by exact ty_bool) rfl) ?_
      obtain ⟨r_21, hr_21, hr⟩ := bindS hr
      refine r_w rfl rfl rfl (s_call _ rfl cl_Pconstraintref52_writer_flag (.cons rfl (Wk.refl _) (.cons rfl (Wk.refl _) .nil)) (by exact (pf0 _)) (lg_Pconstraintref52_writer_flag_s1 _ _ _ _ hr_21)) ?_
      rintro _ _ ⟨_, ⟨rfl, rfl⟩, rfl⟩
      refine r_st ((.cell b9_0 (enc_S_constraintref52_writer r_21)) :: _) rfl ?_
      refine r_end ?_
      refine g_seq ?_
      refine g_run (by kernel_rfl) [(0, .d), (1, .w), (2, .d)] rfl ?_
      refine r_d rfl rfl rfl (s_move rfl rfl) ?_
      obtain ⟨r_22, hr_22, hr⟩ := bindS hr
      refine r_w rfl rfl rfl (s_call _ rfl cl_Pconstraintref52_writer_bytes (.cons rfl (Wk.refl _) .nil) (by exact (pf0 _)) (lg_Pconstraintref52_writer_bytes_s1 _ _ _ hr_22)) ?_
      rintro _ _ ⟨_, ⟨rfl, rfl⟩, rfl⟩
      refine r_st ((.cell b9_0 (enc_S_constraintref52_writer r_21)) :: _) rfl ?_
      refine r_d rfl rfl rfl (s_assign rfl rfl) ?_
      refine r_end ?_
      obtain rfl := Option.some.inj hr
      refine g_ret Tryz.func18 _ (.cons (resTmp rfl (Wk.refl _)) .nil) ?_
      rfl
     ·
      refine g_sub [(1, .ptr (enc_S_api_Config c_a0)), (3, .ref b9_0 0 []), (7, .int .i64 ((0 : Nat) : Int))] (Sub.cons' rfl (Sub.cons' rfl (Sub.cons' rfl (Sub.nil _)))) ?_
      refine g_loop (fun n env σ => ∃ (i_16 : Nat) (w_17 : S_constraintref52_writer), (n = c_a0.f3_Fired.length - i_16) ∧ (env = [(1, .ptr (enc_S_api_Config c_a0)), (3, .ref b9_0 0 []), (7, .int .i64 (i_16 : Int))]) ∧ (σ = [.cell b9_0 (enc_S_constraintref52_writer w_17)]) ∧ (i_16 ≤ c_a0.f3_Fired.length) ∧ (lf_constraintref52_Config_L3 kk3 (c_a0.f3_Fired.drop i_16) w_17 = some res)) _ ⟨0, r_15, rfl, rfl, rfl, Nat.zero_le _, hr⟩ ?_
      rintro n _ _ ⟨i_16, w_17, rfl, rfl, rfl, hi3, hr⟩ IH3
      rcases listStep c_a0.f3_Fired i_16 hi3 with ⟨ht3, hd3, he3⟩ | ⟨q_23, ht3, hd3, hq3, hlt3⟩
      ·
       rw [hd3, lf_constraintref52_Config_L3] at hr
       refine g_seq ?_
       refine g_seq ?_
       refine g_run (by kernel_rfl) [(0, .d), (1, .d), (2, .d), (3, .d), (4, .d), (5, .d), (6, .d), (7, .d), (8, .d), (9, .r), (10, .d), (11, .d)] rfl ?_
       refine r_d rfl rfl rfl (s_move rfl rfl) ?_
       refine r_d rfl rfl rfl (s_fieldAddr rfl fl_api_Config_3 rfl rfl rfl rfl) ?_
       refine r_d rfl rfl rfl (s_load rfl rfl (by exact ty_L_api_Fire) rfl) ?_
       refine r_d rfl rfl rfl (m_len (f := enc_S_api_Fire) c_a0.f3_Fired rfl el_L_api_Fire rfl (asl rfl)) ?_
       refine r_d rfl rfl rfl (s_cmp rfl rfl rfl rfl) ?_
       refine r_d rfl rfl rfl (s_move rfl rfl) ?_
       refine r_known 118 false rfl ht3 ?_
       refine r_skip rfl rfl rfl ?_
       refine r_skip rfl rfl rfl ?_
       refine r_skip rfl rfl rfl ?_
       refine r_skip rfl rfl rfl ?_
       refine r_skip rfl rfl rfl ?_
       refine r_d rfl rfl rfl (s_pickF rfl rfl rfl) ?_
       refine r_end ?_
       refine g_condF rfl ?_
       refine g_exit rfl ?_
       refine g_sub [(1, .ptr (enc_S_api_Config c_a0)), (3, .ref b9_0 0 [])] (Sub.cons' rfl (Sub.cons' rfl (Sub.nil _))) ?_
       exact HK3 _ _ ⟨w_17, rfl, rfl, hr⟩
      ·
       rw [hd3, lf_constraintref52_Config_L3] at hr
       refine g_seq ?_
       refine g_seq ?_
       refine g_run (by kernel_rfl) [(0, .d), (1, .d), (2, .d), (3, .d), (4, .d), (5, .d), (6, .d), (7, .d), (8, .d), (9, .r), (10, .d), (11, .d)] rfl ?_
       refine r_d rfl rfl rfl (s_move rfl rfl) ?_
       refine r_d rfl rfl rfl (s_fieldAddr rfl fl_api_Config_3 rfl rfl rfl rfl) ?_
       refine r_d rfl rfl rfl (s_load rfl rfl (by exact ty_L_api_Fire) rfl) ?_
       refine r_d rfl rfl rfl (m_len (f := enc_S_api_Fire) c_a0.f3_Fired rfl el_L_api_Fire rfl (asl rfl)) ?_
       refine r_d rfl rfl rfl (s_cmp rfl rfl rfl rfl) ?_
       refine r_d rfl rfl rfl (s_move rfl rfl) ?_
       refine r_known 118 true rfl ht3 ?_
       refine r_d rfl rfl rfl (s_move rfl rfl) ?_
       refine r_d rfl rfl rfl (s_nilCheckR rfl rfl) ?_
       refine r_d rfl rfl rfl (s_fieldRef rfl fl_constraintref52_writer_1 rfl) ?_
       refine r_r rfl rfl rfl (t_loadRef rfl rfl (.head _) rfl rfl (by exact ty_bool) rfl) ?_
       refine r_d rfl rfl rfl (s_not rfl rfl) ?_
       refine r_d rfl rfl rfl (s_pickT rfl rfl rfl) ?_
       refine r_end ?_
       refine g_sB 124 rfl hr (fun h124_23 hr => ?_) (fun h124_23 hr => ?_)
       ·
        refine g_condT rfl ?_
        refine g_skip ?_
        refine g_seq ?_
        refine g_block ?_
        refine g_seq ?_
        refine g_run (by kernel_rfl) [(0, .d), (1, .d), (2, .d), (3, .d), (4, .d), (5, .d), (6, .d), (7, .w)] rfl ?_
        refine r_d rfl rfl rfl (s_move rfl rfl) ?_
        refine r_d rfl rfl rfl (s_fieldAddr rfl fl_api_Config_3 rfl rfl rfl rfl) ?_
        refine r_d rfl rfl rfl (s_load rfl rfl (by exact ty_L_api_Fire) rfl) ?_
        refine r_d rfl rfl rfl (s_move rfl rfl) ?_
        refine r_d rfl rfl rfl (m_index (f := enc_S_api_Fire) c_a0.f3_Fired rfl el_L_api_Fire rfl (asl rfl) rfl hq3 sz_S_api_Fire rfl) ?_
        refine r_d rfl rfl rfl (s_fieldAddr rfl fl_api_Fire_0 rfl rfl rfl rfl) ?_
        refine r_d rfl rfl rfl (s_load rfl rfl (by exact ty_int) rfl) ?_
        obtain ⟨r_25, hr_25, hr⟩ := bindS hr
        refine r_w rfl rfl rfl (s_call _ rfl cl_Pconstraintref52_writer_num (.cons rfl (Wk.refl _) (.cons rfl (Wk.refl _) (.cons rfl (Wk.refl _) (.cons rfl (Wk.refl _) .nil)))) (by exact (pf0 _)) (lg_Pconstraintref52_writer_num_s1 _ _ _ _ _ _ hr_25)) ?_
        rintro _ _ ⟨_, ⟨rfl, rfl⟩, rfl⟩
        refine r_st ((.cell b9_0 (enc_S_constraintref52_writer r_25)) :: _) rfl ?_
        refine r_end ?_
        refine g_run (by kernel_rfl) [(0, .d), (1, .d), (2, .d), (3, .d), (4, .d), (5, .d), (6, .d), (7, .w)] rfl ?_
        refine r_d rfl rfl rfl (s_move rfl rfl) ?_
        refine r_d rfl rfl rfl (s_fieldAddr rfl fl_api_Config_3 rfl rfl rfl rfl) ?_
        refine r_d rfl rfl rfl (s_load rfl rfl (by exact ty_L_api_Fire) rfl) ?_
        refine r_d rfl rfl rfl (s_move rfl rfl) ?_
        refine r_d rfl rfl rfl (m_index (f := enc_S_api_Fire) c_a0.f3_Fired rfl el_L_api_Fire rfl (asl rfl) rfl hq3 sz_S_api_Fire rfl) ?_
        refine r_d rfl rfl rfl (s_fieldAddr rfl fl_api_Fire_1 rfl rfl rfl rfl) ?_
        refine r_d rfl rfl rfl (s_load rfl rfl (by exact ty_L_int) rfl) ?_
        obtain ⟨r_26, hr_26, hr⟩ := bindS hr
        refine r_w rfl rfl rfl (s_call _ rfl cl_Pconstraintref52_writer_nums (.cons rfl (Wk.refl _) (.cons rfl (Wk.refl _) (.cons rfl (Wk.refl _) (.cons rfl (Wk.refl _) .nil)))) (by exact (pf0 _)) (lg_Pconstraintref52_writer_nums_s1 _ _ _ _ _ _ hr_26)) ?_
        rintro _ _ ⟨_, ⟨rfl, rfl⟩, rfl⟩
        refine r_st ((.cell b9_0 (enc_S_constraintref52_writer r_26)) :: _) rfl ?_
        refine r_end ?_
        refine g_inBlock ?_
        refine g_run (by kernel_rfl) [(0, .d), (1, .d), (2, .d)] rfl ?_
        refine r_d rfl rfl rfl (s_move rfl rfl) ?_
        refine r_d rfl rfl rfl (s_ar (r := ((i_16 + 1 : Nat) : Int)) rfl rfl rfl (by simp [iar]) (by omega)) ?_
        refine r_d rfl rfl rfl (s_assign rfl rfl) ?_
        refine r_end ?_
        refine g_sub [(1, .ptr (enc_S_api_Config c_a0)), (3, .ref b9_0 0 []), (7, .int .i64 ((i_16 + 1 : Nat) : Int))] (Sub.cons' rfl (Sub.cons' rfl (Sub.cons' rfl (Sub.nil _)))) ?_
        exact IH3 _ _ _ (by omega) ⟨(i_16 + 1), r_26, rfl, rfl, rfl, (by omega), hr⟩
       ·
        refine g_condF rfl ?_
        refine g_exit rfl ?_
        refine g_sub [(1, .ptr (enc_S_api_Config c_a0)), (3, .ref b9_0 0 [])] (Sub.cons' rfl (Sub.cons' rfl (Sub.nil _))) ?_
        exact HK3 _ _ ⟨w_17, rfl, rfl, hr⟩
    ·
     refine g_sub [(1, .ptr (enc_S_api_Config c_a0)), (3, .ref b9_0 0 []), (6, .int .i64 ((0 : Nat) : Int))] (Sub.cons' rfl (Sub.cons' rfl (Sub.cons' rfl (Sub.nil _)))) ?_
     refine g_loop (fun n env σ => ∃ (i_12 : Nat) (w_13 : S_constraintref52_writer), (n = c_a0.f2_Binds.length - i_12) ∧ (env = [(1, .ptr (enc_S_api_Config c_a0)), (3, .ref b9_0 0 []), (6, .int .i64 (i_12 : Int))]) ∧ (σ = [.cell b9_0 (enc_S_constraintref52_writer w_13)]) ∧ (i_12 ≤ c_a0.f2_Binds.length) ∧ (lf_constraintref52_Config_L2 kk2 fuel (c_a0.f2_Binds.drop i_12) w_13 = some res)) _ ⟨0, r_11, rfl, rfl, rfl, Nat.zero_le _, hr⟩ ?_
     rintro n _ _ ⟨i_12, w_13, rfl, rfl, rfl, hi2, hr⟩ IH2
     rcases listStep c_a0.f2_Binds i_12 hi2 with ⟨ht2, hd2, he2⟩ | ⟨q_27, ht2, hd2, hq2, hlt2⟩
     ·
      rw [hd2, lf_constraintref52_Config_L2] at hr
      refine g_seq ?_
      refine g_seq ?_
      refine g_run (by kernel_rfl) [(0, .d), (1, .d), (2, .d), (3, .d), (4, .d), (5, .d), (6, .d), (7, .d), (8, .d), (9, .r), (10, .d), (11, .d)] rfl ?_
      refine r_d rfl rfl rfl (s_move rfl rfl) ?_
      refine r_d rfl rfl rfl (s_fieldAddr rfl fl_api_Config_2 rfl rfl rfl rfl) ?_
      refine r_d rfl rfl rfl (s_load rfl rfl (by exact ty_api_Binds) rfl) ?_
      refine r_d rfl rfl rfl (m_len (f := encP) c_a0.f2_Binds rfl el_api_Binds rfl (asl rfl)) ?_
      refine r_d rfl rfl rfl (s_cmp rfl rfl rfl rfl) ?_
      refine r_d rfl rfl rfl (s_move rfl rfl) ?_
      refine r_known 83 false rfl ht2 ?_
      refine r_skip rfl rfl rfl ?_
      refine r_skip rfl rfl rfl ?_
      refine r_skip rfl rfl rfl ?_
      refine r_skip rfl rfl rfl ?_
      refine r_skip rfl rfl rfl ?_
      refine r_d rfl rfl rfl (s_pickF rfl rfl rfl) ?_
      refine r_end ?_
      refine g_condF rfl ?_
      refine g_exit rfl ?_
      refine g_sub [(1, .ptr (enc_S_api_Config c_a0)), (3, .ref b9_0 0 [])] (Sub.cons' rfl (Sub.cons' rfl (Sub.nil _))) ?_
      exact HK2 _ _ ⟨w_13, rfl, rfl, hr⟩
     ·
      rw [hd2, lf_constraintref52_Config_L2] at hr
      refine g_seq ?_
      refine g_seq ?_
      refine g_run (by kernel_rfl) [(0, .d), (1, .d), (2, .d), (3, .d), (4, .d), (5, .d), (6, .d), (7, .d), (8, .d), (9, .r), (10, .d), (11, .d)] rfl ?_
      refine r_d rfl rfl rfl (s_move rfl rfl) ?_
      refine r_d rfl rfl rfl (s_fieldAddr rfl fl_api_Config_2 rfl rfl rfl rfl) ?_
      refine r_d rfl rfl rfl (s_load rfl rfl (by exact ty_api_Binds) rfl) ?_
      refine r_d rfl rfl rfl (m_len (f := encP) c_a0.f2_Binds rfl el_api_Binds rfl (asl rfl)) ?_
      refine r_d rfl rfl rfl (s_cmp rfl rfl rfl rfl) ?_
      refine r_d rfl rfl rfl (s_move rfl rfl) ?_
      refine r_known 83 true rfl ht2 ?_
      refine r_d rfl rfl rfl (s_move rfl rfl) ?_
      refine r_d rfl rfl rfl (s_nilCheckR rfl rfl) ?_
      refine r_d rfl rfl rfl (s_fieldRef rfl fl_constraintref52_writer_1 rfl) ?_
      refine r_r rfl rfl rfl (t_loadRef rfl rfl (.head _) rfl rfl (by exact ty_bool) rfl) ?_
      refine r_d rfl rfl rfl (s_not rfl rfl) ?_
      refine r_d rfl rfl rfl (s_pickT rfl rfl rfl) ?_
      refine r_end ?_
      refine g_sB 89 rfl hr (fun h89_27 hr => ?_) (fun h89_27 hr => ?_)
      ·
       refine g_condT rfl ?_
       refine g_skip ?_
       refine g_seq ?_
       refine g_block ?_
       refine g_seq ?_
       refine g_run (by kernel_rfl) [(0, .d), (1, .d), (2, .d), (3, .d), (4, .d), (5, .d), (6, .d), (7, .w)] rfl ?_
       refine r_d rfl rfl rfl (s_move rfl rfl) ?_
       refine r_d rfl rfl rfl (s_fieldAddr rfl fl_api_Config_2 rfl rfl rfl rfl) ?_
       refine r_d rfl rfl rfl (s_load rfl rfl (by exact ty_api_Binds) rfl) ?_
       refine r_d rfl rfl rfl (s_move rfl rfl) ?_
       refine r_d rfl rfl rfl (m_index (f := encP) c_a0.f2_Binds rfl el_api_Binds rfl (asl rfl) rfl hq2 sz_encP rfl) ?_
       refine r_d rfl rfl rfl (s_fieldAddr rfl fl_api_Bind_0 rfl rfl rfl rfl) ?_
       refine r_d rfl rfl rfl (s_load rfl rfl (by exact ty_int) rfl) ?_
       obtain ⟨r_29, hr_29, hr⟩ := bindS hr
       refine r_w rfl rfl rfl (s_call _ rfl cl_Pconstraintref52_writer_num (.cons rfl (Wk.refl _) (.cons rfl (Wk.refl _) (.cons rfl (Wk.refl _) (.cons rfl (Wk.refl _) .nil)))) (by exact (pf0 _)) (lg_Pconstraintref52_writer_num_s1 _ _ _ _ _ _ hr_29)) ?_
       rintro _ _ ⟨_, ⟨rfl, rfl⟩, rfl⟩
       refine r_st ((.cell b9_0 (enc_S_constraintref52_writer r_29)) :: _) rfl ?_
       refine r_end ?_
       refine g_run (by kernel_rfl) [(0, .d), (1, .d), (2, .d), (3, .d), (4, .d), (5, .d), (6, .d), (7, .w)] rfl ?_
       refine r_d rfl rfl rfl (s_move rfl rfl) ?_
       refine r_d rfl rfl rfl (s_fieldAddr rfl fl_api_Config_2 rfl rfl rfl rfl) ?_
       refine r_d rfl rfl rfl (s_load rfl rfl (by exact ty_api_Binds) rfl) ?_
       refine r_d rfl rfl rfl (s_move rfl rfl) ?_
       refine r_d rfl rfl rfl (m_index (f := encP) c_a0.f2_Binds rfl el_api_Binds rfl (asl rfl) rfl hq2 sz_encP rfl) ?_
       refine r_d rfl rfl rfl (s_fieldAddr rfl fl_api_Bind_1 rfl rfl rfl rfl) ?_
       refine r_d rfl rfl rfl (s_load rfl rfl (by exact ty_api_Term) (sz_encT _)) ?_
       obtain ⟨r_30, hr_30, hr⟩ := bindS hr
       refine r_w rfl rfl rfl (s_call _ rfl cl_Pconstraintref52_writer_term (.cons rfl (Wk.refl _) (.cons rfl (Wk.refl _) .nil)) (by exact (pf0 _)) (lg_Pconstraintref52_writer_term_s1 fuel _ _ _ _ hr_30)) ?_
       rintro _ _ ⟨_, ⟨rfl, rfl⟩, rfl⟩
       refine r_st ((.cell b9_0 (enc_S_constraintref52_writer r_30)) :: _) rfl ?_
       refine r_end ?_
       refine g_inBlock ?_
       refine g_run (by kernel_rfl) [(0, .d), (1, .d), (2, .d)] rfl ?_
       refine r_d rfl rfl rfl (s_move rfl rfl) ?_
       refine r_d rfl rfl rfl (s_ar (r := ((i_12 + 1 : Nat) : Int)) rfl rfl rfl (by simp [iar]) (by omega)) ?_
       refine r_d rfl rfl rfl (s_assign rfl rfl) ?_
       refine r_end ?_
       refine g_sub [(1, .ptr (enc_S_api_Config c_a0)), (3, .ref b9_0 0 []), (6, .int .i64 ((i_12 + 1 : Nat) : Int))] (Sub.cons' rfl (Sub.cons' rfl (Sub.cons' rfl (Sub.nil _)))) ?_
       exact IH2 _ _ _ (by omega) ⟨(i_12 + 1), r_30, rfl, rfl, rfl, (by omega), hr⟩
      ·
       refine g_condF rfl ?_
       refine g_exit rfl ?_
       refine g_sub [(1, .ptr (enc_S_api_Config c_a0)), (3, .ref b9_0 0 [])] (Sub.cons' rfl (Sub.cons' rfl (Sub.nil _))) ?_
       exact HK2 _ _ ⟨w_13, rfl, rfl, hr⟩
   ·
    refine g_sub [(1, .ptr (enc_S_api_Config c_a0)), (3, .ref b9_0 0 []), (5, .int .i64 ((0 : Nat) : Int))] (Sub.cons' rfl (Sub.cons' rfl (Sub.cons' rfl (Sub.nil _)))) ?_
    refine g_loop (fun n env σ => ∃ (i_8 : Nat) (w_9 : S_constraintref52_writer), (n = c_a0.f1_Store.length - i_8) ∧ (env = [(1, .ptr (enc_S_api_Config c_a0)), (3, .ref b9_0 0 []), (5, .int .i64 (i_8 : Int))]) ∧ (σ = [.cell b9_0 (enc_S_constraintref52_writer w_9)]) ∧ (i_8 ≤ c_a0.f1_Store.length) ∧ (lf_constraintref52_Config_L1 kk1 fuel (c_a0.f1_Store.drop i_8) w_9 = some res)) _ ⟨0, r_7, rfl, rfl, rfl, Nat.zero_le _, hr⟩ ?_
    rintro n _ _ ⟨i_8, w_9, rfl, rfl, rfl, hi1, hr⟩ IH1
    rcases listStep c_a0.f1_Store i_8 hi1 with ⟨ht1, hd1, he1⟩ | ⟨q_31, ht1, hd1, hq1, hlt1⟩
    ·
     rw [hd1, lf_constraintref52_Config_L1] at hr
     refine g_seq ?_
     refine g_seq ?_
     refine g_run (by kernel_rfl) [(0, .d), (1, .d), (2, .d), (3, .d), (4, .d), (5, .d), (6, .d), (7, .d), (8, .d), (9, .r), (10, .d), (11, .d)] rfl ?_
     refine r_d rfl rfl rfl (s_move rfl rfl) ?_
     refine r_d rfl rfl rfl (s_fieldAddr rfl fl_api_Config_1 rfl rfl rfl rfl) ?_
     refine r_d rfl rfl rfl (s_load rfl rfl (by exact ty_L_api_Item) rfl) ?_
     refine r_d rfl rfl rfl (m_len (f := encIt) c_a0.f1_Store rfl el_L_api_Item rfl (asl rfl)) ?_
     refine r_d rfl rfl rfl (s_cmp rfl rfl rfl rfl) ?_
     refine r_d rfl rfl rfl (s_move rfl rfl) ?_
     refine r_known 48 false rfl ht1 ?_
     refine r_skip rfl rfl rfl ?_
     refine r_skip rfl rfl rfl ?_
     refine r_skip rfl rfl rfl ?_
     refine r_skip rfl rfl rfl ?_
     refine r_skip rfl rfl rfl ?_
     refine r_d rfl rfl rfl (s_pickF rfl rfl rfl) ?_
     refine r_end ?_
     refine g_condF rfl ?_
     refine g_exit rfl ?_
     refine g_sub [(1, .ptr (enc_S_api_Config c_a0)), (3, .ref b9_0 0 [])] (Sub.cons' rfl (Sub.cons' rfl (Sub.nil _))) ?_
     exact HK1 _ _ ⟨w_9, rfl, rfl, hr⟩
    ·
     rw [hd1, lf_constraintref52_Config_L1] at hr
     refine g_seq ?_
     refine g_seq ?_
     refine g_run (by kernel_rfl) [(0, .d), (1, .d), (2, .d), (3, .d), (4, .d), (5, .d), (6, .d), (7, .d), (8, .d), (9, .r), (10, .d), (11, .d)] rfl ?_
     refine r_d rfl rfl rfl (s_move rfl rfl) ?_
     refine r_d rfl rfl rfl (s_fieldAddr rfl fl_api_Config_1 rfl rfl rfl rfl) ?_
     refine r_d rfl rfl rfl (s_load rfl rfl (by exact ty_L_api_Item) rfl) ?_
     refine r_d rfl rfl rfl (m_len (f := encIt) c_a0.f1_Store rfl el_L_api_Item rfl (asl rfl)) ?_
     refine r_d rfl rfl rfl (s_cmp rfl rfl rfl rfl) ?_
     refine r_d rfl rfl rfl (s_move rfl rfl) ?_
     refine r_known 48 true rfl ht1 ?_
     refine r_d rfl rfl rfl (s_move rfl rfl) ?_
     refine r_d rfl rfl rfl (s_nilCheckR rfl rfl) ?_
     refine r_d rfl rfl rfl (s_fieldRef rfl fl_constraintref52_writer_1 rfl) ?_
     refine r_r rfl rfl rfl (t_loadRef rfl rfl (.head _) rfl rfl (by exact ty_bool) rfl) ?_
     refine r_d rfl rfl rfl (s_not rfl rfl) ?_
     refine r_d rfl rfl rfl (s_pickT rfl rfl rfl) ?_
     refine r_end ?_
     refine g_sB 54 rfl hr (fun h54_31 hr => ?_) (fun h54_31 hr => ?_)
     ·
      refine g_condT rfl ?_
      refine g_skip ?_
      refine g_seq ?_
      refine g_block ?_
      refine g_seq ?_
      refine g_run (by kernel_rfl) [(0, .d), (1, .d), (2, .d), (3, .d), (4, .d), (5, .d), (6, .d), (7, .w)] rfl ?_
      refine r_d rfl rfl rfl (s_move rfl rfl) ?_
      refine r_d rfl rfl rfl (s_fieldAddr rfl fl_api_Config_1 rfl rfl rfl rfl) ?_
      refine r_d rfl rfl rfl (s_load rfl rfl (by exact ty_L_api_Item) rfl) ?_
      refine r_d rfl rfl rfl (s_move rfl rfl) ?_
      refine r_d rfl rfl rfl (m_index (f := encIt) c_a0.f1_Store rfl el_L_api_Item rfl (asl rfl) rfl hq1 sz_encIt rfl) ?_
      refine r_d rfl rfl rfl (s_fieldAddr rfl fl_api_Item_0 rfl rfl rfl rfl) ?_
      refine r_d rfl rfl rfl (s_load rfl rfl (by exact ty_int) rfl) ?_
      obtain ⟨r_33, hr_33, hr⟩ := bindS hr
      refine r_w rfl rfl rfl (s_call _ rfl cl_Pconstraintref52_writer_num (.cons rfl (Wk.refl _) (.cons rfl (Wk.refl _) (.cons rfl (Wk.refl _) (.cons rfl (Wk.refl _) .nil)))) (by exact (pf0 _)) (lg_Pconstraintref52_writer_num_s1 _ _ _ _ _ _ hr_33)) ?_
      rintro _ _ ⟨_, ⟨rfl, rfl⟩, rfl⟩
      refine r_st ((.cell b9_0 (enc_S_constraintref52_writer r_33)) :: _) rfl ?_
      refine r_end ?_
      refine g_run (by kernel_rfl) [(0, .d), (1, .d), (2, .d), (3, .d), (4, .d), (5, .d), (6, .d), (7, .w)] rfl ?_
      refine r_d rfl rfl rfl (s_move rfl rfl) ?_
      refine r_d rfl rfl rfl (s_fieldAddr rfl fl_api_Config_1 rfl rfl rfl rfl) ?_
      refine r_d rfl rfl rfl (s_load rfl rfl (by exact ty_L_api_Item) rfl) ?_
      refine r_d rfl rfl rfl (s_move rfl rfl) ?_
      refine r_d rfl rfl rfl (m_index (f := encIt) c_a0.f1_Store rfl el_L_api_Item rfl (asl rfl) rfl hq1 sz_encIt rfl) ?_
      refine r_d rfl rfl rfl (s_fieldAddr rfl fl_api_Item_1 rfl rfl rfl rfl) ?_
      refine r_d rfl rfl rfl (s_load rfl rfl (by exact ty_api_Atom) (sz_encA _)) ?_
      obtain ⟨r_34, hr_34, hr⟩ := bindS hr
      refine r_w rfl rfl rfl (s_call _ rfl cl_Pconstraintref52_writer_atom (.cons rfl (Wk.refl _) (.cons rfl (Wk.refl _) .nil)) (by exact (pf0 _)) (lg_Pconstraintref52_writer_atom_s1 fuel _ _ _ _ hr_34)) ?_
      rintro _ _ ⟨_, ⟨rfl, rfl⟩, rfl⟩
      refine r_st ((.cell b9_0 (enc_S_constraintref52_writer r_34)) :: _) rfl ?_
      refine r_end ?_
      refine g_inBlock ?_
      refine g_run (by kernel_rfl) [(0, .d), (1, .d), (2, .d)] rfl ?_
      refine r_d rfl rfl rfl (s_move rfl rfl) ?_
      refine r_d rfl rfl rfl (s_ar (r := ((i_8 + 1 : Nat) : Int)) rfl rfl rfl (by simp [iar]) (by omega)) ?_
      refine r_d rfl rfl rfl (s_assign rfl rfl) ?_
      refine r_end ?_
      refine g_sub [(1, .ptr (enc_S_api_Config c_a0)), (3, .ref b9_0 0 []), (5, .int .i64 ((i_8 + 1 : Nat) : Int))] (Sub.cons' rfl (Sub.cons' rfl (Sub.cons' rfl (Sub.nil _)))) ?_
      exact IH1 _ _ _ (by omega) ⟨(i_8 + 1), r_34, rfl, rfl, rfl, (by omega), hr⟩
     ·
      refine g_condF rfl ?_
      refine g_exit rfl ?_
      refine g_sub [(1, .ptr (enc_S_api_Config c_a0)), (3, .ref b9_0 0 [])] (Sub.cons' rfl (Sub.cons' rfl (Sub.nil _))) ?_
      exact HK1 _ _ ⟨w_9, rfl, rfl, hr⟩
  ·
   refine g_sub [(1, .ptr (enc_S_api_Config c_a0)), (3, .ref b9_0 0 []), (4, .int .i64 ((0 : Nat) : Int))] (Sub.cons' rfl (Sub.cons' rfl (Sub.cons' rfl (Sub.nil _)))) ?_
   refine g_loop (fun n env σ => ∃ (i_4 : Nat) (t9_5 : S_constraintref52_writer), (n = c_a0.f0_Stack.length - i_4) ∧ (env = [(1, .ptr (enc_S_api_Config c_a0)), (3, .ref b9_0 0 []), (4, .int .i64 (i_4 : Int))]) ∧ (σ = [.cell b9_0 (enc_S_constraintref52_writer t9_5)]) ∧ (i_4 ≤ c_a0.f0_Stack.length) ∧ (lf_constraintref52_Config_L0 kk0 fuel (c_a0.f0_Stack.drop i_4) t9_5 = some res)) _ ⟨0, r_3, rfl, rfl, rfl, Nat.zero_le _, hr⟩ ?_
   rintro n _ _ ⟨i_4, t9_5, rfl, rfl, rfl, hi0, hr⟩ IH0
   rcases listStep c_a0.f0_Stack i_4 hi0 with ⟨ht0, hd0, he0⟩ | ⟨q_35, ht0, hd0, hq0, hlt0⟩
   ·
    rw [hd0, lf_constraintref52_Config_L0] at hr
    refine g_seq ?_
    refine g_seq ?_
    refine g_run (by kernel_rfl) [(0, .d), (1, .d), (2, .d), (3, .d), (4, .d), (5, .d), (6, .d), (7, .d), (8, .d), (9, .r), (10, .d), (11, .d)] rfl ?_
    refine r_d rfl rfl rfl (s_move rfl rfl) ?_
    refine r_d rfl rfl rfl (s_fieldAddr rfl fl_api_Config_0 rfl rfl rfl rfl) ?_
    refine r_d rfl rfl rfl (s_load rfl rfl (by exact ty_L_api_Frame) rfl) ?_
    refine r_d rfl rfl rfl (m_len (f := enc_S_api_Frame) c_a0.f0_Stack rfl el_L_api_Frame rfl (asl rfl)) ?_
    refine r_d rfl rfl rfl (s_cmp rfl rfl rfl rfl) ?_
    refine r_d rfl rfl rfl (s_move rfl rfl) ?_
    refine r_known 22 false rfl ht0 ?_
    refine r_skip rfl rfl rfl ?_
    refine r_skip rfl rfl rfl ?_
    refine r_skip rfl rfl rfl ?_
    refine r_skip rfl rfl rfl ?_
    refine r_skip rfl rfl rfl ?_
    refine r_d rfl rfl rfl (s_pickF rfl rfl rfl) ?_
    refine r_end ?_
    refine g_condF rfl ?_
    refine g_exit rfl ?_
    refine g_sub [(1, .ptr (enc_S_api_Config c_a0)), (3, .ref b9_0 0 [])] (Sub.cons' rfl (Sub.cons' rfl (Sub.nil _))) ?_
    exact HK0 _ _ ⟨t9_5, rfl, rfl, hr⟩
   ·
    rw [hd0, lf_constraintref52_Config_L0] at hr
    refine g_seq ?_
    refine g_seq ?_
    refine g_run (by kernel_rfl) [(0, .d), (1, .d), (2, .d), (3, .d), (4, .d), (5, .d), (6, .d), (7, .d), (8, .d), (9, .r), (10, .d), (11, .d)] rfl ?_
    refine r_d rfl rfl rfl (s_move rfl rfl) ?_
    refine r_d rfl rfl rfl (s_fieldAddr rfl fl_api_Config_0 rfl rfl rfl rfl) ?_
    refine r_d rfl rfl rfl (s_load rfl rfl (by exact ty_L_api_Frame) rfl) ?_
    refine r_d rfl rfl rfl (m_len (f := enc_S_api_Frame) c_a0.f0_Stack rfl el_L_api_Frame rfl (asl rfl)) ?_
    refine r_d rfl rfl rfl (s_cmp rfl rfl rfl rfl) ?_
    refine r_d rfl rfl rfl (s_move rfl rfl) ?_
    refine r_known 22 true rfl ht0 ?_
    refine r_d rfl rfl rfl (s_move rfl rfl) ?_
    refine r_d rfl rfl rfl (s_nilCheckR rfl rfl) ?_
    refine r_d rfl rfl rfl (s_fieldRef rfl fl_constraintref52_writer_1 rfl) ?_
    refine r_r rfl rfl rfl (t_loadRef rfl rfl (.head _) rfl rfl (by exact ty_bool) rfl) ?_
    refine r_d rfl rfl rfl (s_not rfl rfl) ?_
    refine r_d rfl rfl rfl (s_pickT rfl rfl rfl) ?_
    refine r_end ?_
    refine g_sB 28 rfl hr (fun h28_35 hr => ?_) (fun h28_35 hr => ?_)
    ·
     refine g_condT rfl ?_
     refine g_skip ?_
     refine g_seq ?_
     refine g_block ?_
     refine g_run (by kernel_rfl) [(0, .d), (1, .d), (2, .d), (3, .d), (4, .d), (5, .d), (6, .w)] rfl ?_
     refine r_d rfl rfl rfl (s_move rfl rfl) ?_
     refine r_d rfl rfl rfl (s_fieldAddr rfl fl_api_Config_0 rfl rfl rfl rfl) ?_
     refine r_d rfl rfl rfl (s_load rfl rfl (by exact ty_L_api_Frame) rfl) ?_
     refine r_d rfl rfl rfl (s_move rfl rfl) ?_
     refine r_d rfl rfl rfl (m_index (f := enc_S_api_Frame) c_a0.f0_Stack rfl el_L_api_Frame rfl (asl rfl) rfl hq0 sz_S_api_Frame rfl) ?_
     refine r_d rfl rfl rfl (s_load rfl rfl (by exact ty_api_Frame) (sz_S_api_Frame _)) ?_
     obtain ⟨r_37, hr_37, hr⟩ := bindS hr
     refine r_w rfl rfl rfl (s_call _ rfl cl_Pconstraintref52_writer_frame (.cons rfl (Wk.refl _) (.cons rfl (Wk.refl _) .nil)) (by exact (pf0 _)) (lg_Pconstraintref52_writer_frame_s1 fuel _ _ _ _ hr_37)) ?_
     rintro _ _ ⟨_, ⟨rfl, rfl⟩, rfl⟩
     refine r_st ((.cell b9_0 (enc_S_constraintref52_writer r_37)) :: _) rfl ?_
     refine r_end ?_
     refine g_inBlock ?_
     refine g_run (by kernel_rfl) [(0, .d), (1, .d), (2, .d)] rfl ?_
     refine r_d rfl rfl rfl (s_move rfl rfl) ?_
     refine r_d rfl rfl rfl (s_ar (r := ((i_4 + 1 : Nat) : Int)) rfl rfl rfl (by simp [iar]) (by omega)) ?_
     refine r_d rfl rfl rfl (s_assign rfl rfl) ?_
     refine r_end ?_
     refine g_sub [(1, .ptr (enc_S_api_Config c_a0)), (3, .ref b9_0 0 []), (4, .int .i64 ((i_4 + 1 : Nat) : Int))] (Sub.cons' rfl (Sub.cons' rfl (Sub.cons' rfl (Sub.nil _)))) ?_
     exact IH0 _ _ _ (by omega) ⟨(i_4 + 1), r_37, rfl, rfl, rfl, (by omega), hr⟩
    ·
     refine g_condF rfl ?_
     refine g_exit rfl ?_
     refine g_sub [(1, .ptr (enc_S_api_Config c_a0)), (3, .ref b9_0 0 [])] (Sub.cons' rfl (Sub.cons' rfl (Sub.nil _))) ?_
     exact HK0 _ _ ⟨t9_5, rfl, rfl, hr⟩

end Go.Proofs.YtdoljfkjdfaakaaGreat


namespace Go.Proofs.YtdoljfkjdfaakaaGreat
set_option maxRecDepth 100000
open Go.RowKit

/-! ### writers -/
section
variable {W α β : Type} {mk : List Int → Bool → W} {f g : W → Option W} {N M : Nat} {r s : Option (List Int)}
theorem Wr.le (h : Wr mk f N r) (hn : N ≤ M) : Wr mk f M r := fun b bad hb => by
  obtain ⟨b1, bad1, e1, l1, m1, o1⟩ := h b bad (by omega)
  exact ⟨b1, bad1, e1, by omega, m1, o1⟩
/-- A list, one by one. -/
def runW (put : α → W → Option W) : List α → W → Option W
  | [], c => some c
  | x :: l, c => (put x c).bind (runW put l)
/-- .. as long as the value is sound. -/
def runR (bad : W → Bool) (put : α → W → Option W) : List α → W → Option W
  | [], c => some c
  | x :: l, c => bif !bad c then (put x c).bind (runR bad put l) else some c
def eCat (e : α → Option (List Int)) : List α → Option (List Int)
  | [] => some []
  | x :: l => catO (e x) (eCat e l)
theorem wr_run {put : α → W → Option W} {e : α → Option (List Int)} {n : Nat} : ∀ (l : List α), (∀ x ∈ l, Wr mk (put x) n (e x)) → Wr mk (runW put l) (l.length * n) (eCat e l)
  | [], _ => (Wr.pure : Wr mk some 0 (some [])).le (Nat.zero_le _)
  | x :: l, h => ((h x (by simp)).bind (wr_run l fun y hy => h y (by simp [hy]))).le (by simp only [List.length_cons, Nat.add_mul]; omega)
theorem wr_runR {bad : W → Bool} (hbad : ∀ b x, bad (mk b x) = x) {put : α → W → Option W} {e : α → Option (List Int)} {n : Nat} : ∀ (l : List α), (∀ x ∈ l, Wr mk (put x) n (e x)) → Wr mk (runR bad put l) (l.length * n) (eCat e l)
  | [], _ => (Wr.pure : Wr mk some 0 (some [])).le (Nat.zero_le _)
  | x :: l, h => fun b bd hb => by
    cases bd with
    | false =>
      have := ((h x (by simp)).bind (wr_runR hbad l fun y hy => h y (by simp [hy]))).le (M := (x :: l).length * n) (by simp only [List.length_cons, Nat.add_mul]; omega) b false hb
      unfold eCat
      simpa only [runR, hbad, Bool.not_false, cond_true] using this
    | true => exact ⟨b, true, by simp [runR, hbad], by omega, id, fun h => by cases h⟩
/-- A number from low to high. -/
def eNum (lo hi n : Int) : Option (List Int) := if lo ≤ n ∧ n ≤ hi then some (encN n) else none
def eText (s : ByteArray) : Option (List Int) := if s.size ≤ 40 then some (encN s.size ++ toY s.data.toList) else none
def eBool (x : Bool) : Option (List Int) := some [bif x then 1 else 0]
def eList (most : Int) (e : α → Option (List Int)) (l : List α) : Option (List Int) := catO (eNum 0 most (l.length : Int)) (eCat e l)
def eNums (most hi : Int) : List Int → Option (List Int) := eList most (eNum 0 hi)
mutual
def bT : T → List Int
  | .mk k i s ar => encN k ++ (if k = 2 then (encN s.size ++ toY s.data.toList) ++ (encN ar.length ++ bL ar) else encN i)
def bL : List T → List Int
  | [] => []
  | t :: l => bT t ++ bL l
end
noncomputable def eT (t : T) : Option (List Int) := if rightT t = true then some (bT t) else none
def bArgs (n : ByteArray) (ts : List T) : List Int := (encN n.size ++ toY n.data.toList) ++ (encN ts.length ++ bL ts)
noncomputable def eAtom (a : At) : Option (List Int) := if rightA a = true then some (bArgs a.n a.ts) else none
noncomputable def eGoal (g : Gl) : Option (List Int) := if rightG g = true then some (encN g.op ++ bArgs g.n g.ts) else none
noncomputable def eFrame (f : S_api_Frame) : Option (List Int) := catO (eNum 0 2147483648 f.f1_ID) (catO (eNum (-1) 2147483648 f.f2_Occ) (if f.f1_ID = 0 then eGoal f.f0_Goal else if f.f0_Goal.op = 0 ∧ f.f0_Goal.n.toList = [] ∧ f.f0_Goal.ts = [] then some [] else none))
noncomputable def eItem (x : Int × At) : Option (List Int) := catO (eNum 0 2147483648 x.1) (eAtom x.2)
noncomputable def eBind (x : Int × T) : Option (List Int) := catO (eNum 0 1048576 x.1) (eT x.2)
def eFire (x : S_api_Fire) : Option (List Int) := catO (eNum 0 40 x.f0_Rule) (eNums 4 2147483648 x.f1_IDs)
noncomputable def eConfig (c : S_api_Config) : Option (List Int) := catO (eNum 2 2 2) (catO (eList 1000 eFrame c.f0_Stack) (catO (eList 500 eItem c.f1_Store) (catO (eList 1048576 eBind c.f2_Binds) (catO (eList 5000 eFire c.f3_Fired) (catO (eNum 0 2147483648 c.f4_Next) (catO (eNum 0 1048576 c.f5_Fresh) (eBool c.f6_Failed)))))))
theorem encN_len (n : Int) : (encN n).length ≤ 10 := by
  unfold encN
  rw [len_toY, List.length_take]
  omega
theorem text_len (s : ByteArray) : (encN s.size ++ toY s.data.toList).length ≤ 10 + s.size := by
  have := encN_len s.size
  rw [List.length_append, len_toY]
  have : s.data.toList.length = s.size := Array.length_toList
  omega
/-- What is written is a list of numbers first, then the elements, unless the number is bad. -/
theorem wr_list {num : W → Option W} {L : W → Option W} {bad : W → Bool} (hbad : ∀ b x, bad (mk b x) = x) {most : Int} {e : α → Option (List Int)} {l : List α} {n m : Nat} (hm : (l.length : Int) ≤ most → l.length ≤ m)
    (hn : Wr mk num 10 (eNum 0 most (l.length : Int))) (hl : Wr mk L (l.length * n) (eCat e l)) : Wr mk (fun c => (num c).bind fun r => bif bad r then some r else L r) (10 + m * n) (eList most e l) := fun b bd hb => by
  obtain ⟨b1, bad1, e1, l1, m1, o1⟩ := hn b bd (by omega)
  simp only [e1, Option.bind_some, hbad]
  cases bad1 with
  | true =>
    refine ⟨b1, true, rfl, by omega, fun _ => rfl, fun h => ?_⟩
    have o1 := o1 h
    unfold eList eNum at *
    split at o1
    · cases o1.1
    · rename_i h1
      rw [if_neg h1]
      rfl
  | false =>
    have hbd : bd = false := by
      cases bd
      · rfl
      · exact absurd (m1 rfl) (by simp)
    have o1 := o1 hbd
    have h1 : 0 ≤ (l.length : Int) ∧ (l.length : Int) ≤ most := by
      unfold eNum at o1
      split at o1
      · assumption
      · cases o1
    have h2 : l.length * n ≤ m * n := Nat.mul_le_mul_right _ (hm h1.2)
    obtain ⟨b2, bad2, e2, l2, m2, o2⟩ := hl b1 false (by omega)
    refine ⟨b2, bad2, e2, by omega, fun h => absurd (h.symm.trans hbd) (by simp), fun _ => ?_⟩
    have o2 := o2 rfl
    unfold eList
    unfold eNum at *
    rw [if_pos h1] at o1 ⊢
    cases hc : eCat e l with
    | none =>
      rw [hc] at o2
      exact o2
    | some y =>
      rw [hc] at o2
      exact ⟨o2.1, by rw [o2.2, o1.2, List.append_assoc]⟩
end
end Go.Proofs.YtdoljfkjdfaakaaGreat


namespace Go.Proofs.YtdoljfkjdfaakaaGreat
set_option maxRecDepth 100000
open Go.RowKit

theorem okW_num {lo hi n : Int} {b : List Int} {bad : Bool} (h : bad = true ↔ ¬(lo ≤ n ∧ n ≤ hi)) : OkW (eNum lo hi n) b (b ++ encN n) bad := by
  unfold eNum
  split
  · rename_i h1
    refine ⟨?_, rfl⟩
    cases bad
    · rfl
    · exact absurd h1 (h.1 rfl)
  · rename_i h1
    exact h.2 h1
theorem okW_text {s : ByteArray} {b b' : List Int} {bad : Bool} (h : bad = true ↔ ¬(s.size ≤ 40)) (hb : s.size ≤ 40 → b' = b ++ (encN s.size ++ toY s.data.toList)) : OkW (eText s) b b' bad := by
  unfold eText
  split
  · rename_i h1
    refine ⟨?_, hb h1⟩
    cases bad
    · rfl
    · exact absurd h1 (h.1 rfl)
  · rename_i h1
    exact h.2 h1
theorem eNum_in {lo hi n : Int} (h1 : lo ≤ n) (h2 : n ≤ hi) : eNum lo hi n = some (encN n) := if_pos ⟨h1, h2⟩
theorem eText_in {s : ByteArray} (h : s.size ≤ 40) : eText s = some (encN s.size ++ toY s.data.toList) := if_pos h
theorem catO_in (a b : List Int) : catO (some a) (some b) = some (a ++ b) := rfl
theorem nil_of_list {s : ByteArray} (h : s.toList = []) : s = ⟨#[]⟩ := by
  obtain ⟨⟨l⟩⟩ := s
  rw [Lib.toList_data] at h
  subst h
  rfl
theorem nilB : (⟨#[]⟩ : ByteArray).toList = [] := by rw [Lib.toList_data]
theorem size_nil {s : ByteArray} (h : s.toList = []) : s.size = 0 := by rw [nil_of_list h]; rfl
theorem op_size {s : ByteArray} (h : isOp s = true) : s.size = 1 := by
  unfold isOp at h
  rw [decide_eq_true_eq] at h
  have : s.size = s.toList.length := (toList_size s).symm
  rcases h with h | h | h | h | h <;> rw [this, h] <;> rfl
theorem name_size {s : ByteArray} (h : isName s = true) : s.size ≤ 40 := by
  unfold isName at h
  simp only [Bool.and_eq_true] at h
  exact (isWord_true h.1.1).2.1
theorem form_k {t : T} (h : formT t = true) : t.k = 0 ∨ t.k = 1 ∨ t.k = 2 := by
  rcases Classical.em (t.k = 0) with h0 | h0
  · exact .inl h0
  rcases Classical.em (t.k = 1) with h1 | h1
  · exact .inr (.inl h1)
  rcases Classical.em (t.k = 2) with h2 | h2
  · exact .inr (.inr h2)
  rw [formT_3 h0 h1 h2] at h
  cases h
theorem form_2 {t : T} (h : formT t = true) (k : t.k = 2) : t.i = 0 ∧ t.s.size ≤ 40 ∧ t.ar.length ≤ 6 ∧ formL t.ar = true := by
  rw [formT_2 k, Bool.and_eq_true] at h
  obtain ⟨h1, h2⟩ := h
  unfold headF at h1
  simp only [Bool.and_eq_true, Bool.or_eq_true, decide_eq_true_eq] at h1
  obtain ⟨h3, h4 | h4⟩ := h1
  · exact ⟨h3, by rw [op_size h4.1]; omega, by omega, h2⟩
  · exact ⟨h3, name_size h4.1, h4.2, h2⟩
theorem bT_2 {t : T} (k : t.k = 2) : bT t = encN t.k ++ ((encN t.s.size ++ toY t.s.data.toList) ++ (encN t.ar.length ++ bL t.ar)) := by
  cases t
  simp only [T.k] at k
  subst k
  rfl
theorem bT_n {t : T} (k : t.k ≠ 2) : bT t = encN t.k ++ encN t.i := by
  cases t
  simp only [T.k] at k
  simp only [bT, if_neg k, T.k, T.i]
theorem rightL_in {l : List T} (h : rightL l = true) : formL l = true ∧ sizeL l ≤ 200 ∧ depthL l ≤ 20 := by
  unfold rightL at h
  simp only [Bool.and_eq_true, decide_eq_true_eq] at h
  exact ⟨h.1.1, h.1.2, h.2⟩
theorem rightT_in {t : T} (h : rightT t = true) : formT t = true ∧ sizeT t ≤ 200 ∧ depthT t ≤ 20 := by
  unfold rightT at h
  simp only [Bool.and_eq_true, decide_eq_true_eq] at h
  exact ⟨h.1.1, h.1.2, h.2⟩
theorem rightA_in {a : At} (h : rightA a = true) : a.n.size ≤ 40 ∧ a.ts.length ≤ 6 ∧ rightL a.ts = true := by
  unfold rightA at h
  simp only [Bool.and_eq_true, decide_eq_true_eq] at h
  exact ⟨name_size h.1.1, h.1.2, h.2⟩
theorem arityG_in {op : Int} {n : Nat} (h : arityG op = (n : Int)) : 1 ≤ op ∧ op ≤ 12 ∧ n ≤ 2 := by
  unfold arityG at h
  split at h
  · omega
  · split at h
    · omega
    · split at h <;> omega
theorem rightG_in {g : Gl} (h : rightG g = true) : 0 ≤ g.op ∧ g.op ≤ 12 ∧ g.n.size ≤ 40 ∧ g.ts.length ≤ 6 ∧ rightL g.ts = true := by
  unfold rightG at h
  split at h
  · rename_i h0
    obtain ⟨h1, h2, h3⟩ := rightA_in h
    exact ⟨by omega, by omega, h1, h2, h3⟩
  · simp only [Bool.and_eq_true, decide_eq_true_eq] at h
    obtain ⟨h1, h2, h3⟩ := arityG_in h.1.2
    exact ⟨by omega, by omega, by rw [size_nil h.1.1]; omega, by omega, h.2⟩
theorem depth_2 {t : T} (k : t.k = 2) : depthT t = depthL t.ar + 1 ∧ sizeT t = 1 + sizeL t.ar := by
  cases t
  simp only [T.k] at k
  subst k
  exact ⟨rfl, rfl⟩
theorem size_pos (t : T) : 1 ≤ sizeT t := by rw [sizeT_eq]; omega


/-! ### The program -/
theorem wr_num (n lo hi : Int) : Wr S_snapshot_writer.mk (lf_Psnapshot_writer_number_s1 n lo hi) 10 (eNum lo hi n) := fun b bad hb => by
  have hl := encN_len n
  have hc : x_cPutInt b n = some (b ++ encN n) := if_pos (by omega)
  have hl2 : (b ++ encN n).length ≤ b.length + 10 := by
    rw [List.length_append]
    omega
  unfold lf_Psnapshot_writer_number_s1
  simp only [hc, Option.bind_some]
  cases bad with
  | true => exact ⟨b ++ encN n, true, by simp only [cond_true], hl2, id, fun h => by cases h⟩
  | false =>
    simp only [cond_false]
    by_cases h1 : n < lo
    · exact ⟨b ++ encN n, true, by rw [decide_eq_true h1, cond_true], hl2, fun _ => rfl, fun _ => okW_num (by simp; omega)⟩
    · exact ⟨b ++ encN n, decide (n > hi), by rw [decide_eq_false h1, cond_false], hl2, fun h => (by cases h), fun _ => okW_num (by simp; omega)⟩
theorem wr_text (s : ByteArray) {B : Nat} (hs : s.size ≤ B) : Wr S_snapshot_writer.mk (lf_Psnapshot_writer_text_s1 s) (10 + B) (eText s) := fun b bad hb => by
  have hl := text_len s
  have hc : x_cPutText b s = some (b ++ (encN s.size ++ toY s.data.toList)) := if_pos ⟨by omega, by omega⟩
  have hl2 : (b ++ (encN s.size ++ toY s.data.toList)).length ≤ b.length + (10 + B) := by
    rw [List.length_append]
    omega
  unfold lf_Psnapshot_writer_text_s1
  simp only [hc, Option.bind_some]
  cases bad with
  | true => exact ⟨_, true, by simp only [cond_true], hl2, id, fun h => by cases h⟩
  | false => exact ⟨_, decide ((s.size : Int) > 40), by simp only [cond_false], hl2, fun h => (by cases h), fun _ => okW_text (by simp; omega) fun _ => rfl⟩
theorem wr_flag (x : Bool) : Wr S_snapshot_writer.mk (fun c => (x_cPutBool c.f0_b x).bind fun r => some (⟨r, c.f1_bad⟩ : S_snapshot_writer)) 1 (eBool x) := fun b bad hb => by
  have hc : x_cPutBool b x = some (b ++ [bif x then 1 else 0]) := if_pos (by omega)
  simp only [hc, Option.bind_some]
  exact ⟨_, bad, rfl, by simp, id, fun h => ⟨h, rfl⟩⟩
theorem loop_s4 (rec : List T → Int → S_snapshot_writer → Option S_snapshot_writer) (k : S_snapshot_writer → Option S_snapshot_writer) : ∀ l c, lf_snapshot_list_s4_L0 k rec l c = (runW (lfo_Psnapshot_writer_term_s1 rec) l c).bind k
  | [], c => rfl
  | x :: l, c => by
    rw [lf_snapshot_list_s4_L0, runW, Option.bind_assoc]
    congr 1
    funext r
    exact loop_s4 rec k l r
theorem runs_T {rec : List T → Int → S_snapshot_writer → Option S_snapshot_writer} : ∀ (l : List T), formL l = true → (∀ t ∈ l, formT t = true → Wr S_snapshot_writer.mk (lfo_Psnapshot_writer_term_s1 rec t) (70 * sizeT t) (some (bT t))) → Wr S_snapshot_writer.mk (runW (lfo_Psnapshot_writer_term_s1 rec) l) (70 * sizeL l) (some (bL l))
  | [], _, _ => Wr.pure
  | x :: l, hf, h => by
    simp only [formL, Bool.and_eq_true] at hf
    exact (((h x (by simp) hf.1).bind (runs_T l hf.2 fun y hy => h y (by simp [hy]))).eq (catO_in _ _)).le (by simp only [sizeL]; omega)
theorem wr_term1 {rec : List T → Int → S_snapshot_writer → Option S_snapshot_writer} (t : T) (hf : formT t = true) (hr : t.k = 2 → Wr S_snapshot_writer.mk (rec t.ar 6) (10 + 70 * sizeL t.ar) (some (encN t.ar.length ++ bL t.ar))) : Wr S_snapshot_writer.mk (lfo_Psnapshot_writer_term_s1 rec t) (70 * sizeT t) (some (bT t)) := by
  have hp := size_pos t
  rcases form_k hf with k | k | k
  · rw [formT_0 k, decide_eq_true_eq] at hf
    refine (((wr_num t.k 0 2).bind (wr_num t.i (-2147483648) 2147483648).last).le (M := 70 * sizeT t) (by omega)).eq (s := some (bT t)) ?_ |>.congr fun c => ?_
    · rw [eNum_in (by omega) (by omega), eNum_in (by omega) (by omega), bT_n (by omega)]
      rfl
    · unfold lfo_Psnapshot_writer_term_s1
      simp [k]
  · rw [formT_1 k, decide_eq_true_eq] at hf
    refine (((wr_num t.k 0 2).bind (wr_num t.i 0 1048576).last).le (M := 70 * sizeT t) (by omega)).eq (s := some (bT t)) ?_ |>.congr fun c => ?_
    · rw [eNum_in (by omega) (by omega), eNum_in (by omega) (by omega), bT_n (by omega)]
      rfl
    · unfold lfo_Psnapshot_writer_term_s1
      simp [k]
  · obtain ⟨f1, f2, f3, f4⟩ := form_2 hf k
    have hz := (depth_2 k).2
    refine (((wr_num t.k 0 2).bind ((wr_text t.s f2).bind (hr k).last)).le (M := 70 * sizeT t) (by omega)).eq (s := some (bT t)) ?_ |>.congr fun c => ?_
    · rw [eNum_in (by omega) (by omega), eText_in f2, bT_2 k]
      rfl
    · unfold lfo_Psnapshot_writer_term_s1
      simp [k]
theorem depthL_mem {t : T} : ∀ {l : List T}, t ∈ l → depthT t ≤ depthL l
  | x :: l, h => by
    simp only [depthL]
    rcases List.mem_cons.1 h with rfl | h
    · omega
    · have := depthL_mem h
      omega
theorem bind_some' {W : Type} (x : Option W) : (x.bind fun y => some y) = x := by cases x <;> rfl
theorem wr_args : ∀ (fuel : Nat) (l : List T), formL l = true → l.length ≤ 6 → depthL l < fuel → Wr S_snapshot_writer.mk (lf_snapshot_list_s4 fuel l 6) (10 + 70 * sizeL l) (some (encN l.length ++ bL l))
  | 0, l, _, _, h => by omega
  | fuel + 1, l, hf, hl, hd => by
    have hrun := runs_T (rec := lf_snapshot_list_s4 fuel) l hf fun t ht hft => wr_term1 t hft fun k => wr_args fuel t.ar (form_2 hft k).2.2.2 (form_2 hft k).2.2.1 (by
      have := depthL_mem ht
      have := (depth_2 k).1
      omega)
    refine fun b bad hb => ?_
    obtain ⟨b1, bad1, e1, l1, m1, o1⟩ := wr_num (l.length : Int) 0 6 b bad (by omega)
    rw [lf_snapshot_list_s4]
    simp only [e1, Option.bind_some, loop_s4, bind_some']
    rw [eNum_in (by omega) (by omega)] at o1
    cases bad1 with
    | true =>
      refine ⟨b1, true, rfl, by omega, fun _ => rfl, fun h => ?_⟩
      exact absurd (o1 h).1 (by simp)
    | false =>
      have hbd : bad = false := by
        cases bad
        · rfl
        · exact absurd (m1 rfl) (by simp)
      obtain ⟨_, rfl⟩ := o1 hbd
      obtain ⟨b2, bad2, e2, l2, m2, o2⟩ := hrun (b ++ encN l.length) false (by omega)
      refine ⟨b2, bad2, e2, by omega, fun h => absurd (h.symm.trans hbd) (by simp), fun _ => ?_⟩
      obtain ⟨o3, o4⟩ := o2 rfl
      exact ⟨o3, by rw [o4, List.append_assoc]⟩
theorem wr_parts {fuel : Nat} (hfu : 21 ≤ fuel) (n : ByteArray) (l : List T) (hn : n.size ≤ 40) (hl : l.length ≤ 6) (hr : rightL l = true) : Wr S_snapshot_writer.mk (lf_Psnapshot_writer_parts_s1 fuel n l) 14060 (some (bArgs n l)) := by
  obtain ⟨h1, h2, h3⟩ := rightL_in hr
  refine (((wr_text n hn).bind (wr_args fuel l h1 hl (by omega)).last).le (M := 14060) (by omega)).eq (s := some (bArgs n l)) ?_
  rw [eText_in hn]
  rfl
theorem wr_atom {fuel : Nat} (hfu : 21 ≤ fuel) (a : At) (ha : wtL a.ts ≤ 1000000000) : Wr S_snapshot_writer.mk (lf_Psnapshot_writer_atom_s1 fuel a) 14060 (eAtom a) := fun b bad hb => by
  unfold lf_Psnapshot_writer_atom_s1
  simp only [x_rightA_eq _ ha, Option.bind_some, bind_some']
  cases bad with
  | true => exact ⟨b, true, rfl, by omega, id, fun h => by cases h⟩
  | false =>
    simp only [cond_false]
    unfold eAtom
    by_cases hr : rightA a = true
    · obtain ⟨r1, r2, r3⟩ := rightA_in hr
      rw [if_pos hr, hr]
      obtain ⟨b', bad', e1, l1, m1, o1⟩ := wr_parts hfu a.n a.ts r1 r2 r3 b false hb
      exact ⟨b', bad', e1, l1, m1, fun _ => o1 rfl⟩
    · rw [if_neg hr, Bool.not_eq_true _ |>.mp hr]
      exact ⟨b, true, rfl, by omega, fun _ => rfl, fun _ => rfl⟩
theorem wr_goal {fuel : Nat} (hfu : 21 ≤ fuel) (g : Gl) (ha : wtL g.ts ≤ 1000000000) : Wr S_snapshot_writer.mk (lf_Psnapshot_writer_goal_s1 fuel g) 14070 (eGoal g) := fun b bad hb => by
  unfold lf_Psnapshot_writer_goal_s1
  simp only [x_rightG_eq _ ha, Option.bind_some, bind_some']
  cases bad with
  | true => exact ⟨b, true, rfl, by omega, id, fun h => by cases h⟩
  | false =>
    simp only [cond_false]
    unfold eGoal
    by_cases hr : rightG g = true
    · obtain ⟨r0, r0', r1, r2, r3⟩ := rightG_in hr
      rw [if_pos hr, hr]
      have := ((wr_num g.op 0 12).bind (wr_parts hfu g.n g.ts r1 r2 r3)).eq (s := some (encN g.op ++ bArgs g.n g.ts)) (by rw [eNum_in r0 r0']; rfl) b false hb
      obtain ⟨b', bad', e1, l1, m1, o1⟩ := this
      exact ⟨b', bad', e1, l1, m1, fun _ => o1 rfl⟩
    · rw [if_neg hr, Bool.not_eq_true _ |>.mp hr]
      exact ⟨b, true, rfl, by omega, fun _ => rfl, fun _ => rfl⟩
theorem wr_bindT {fuel : Nat} (hfu : 21 ≤ fuel) (x : Int × T) (ha : wt x.2 ≤ 1000000000) : Wr S_snapshot_writer.mk (lf_snapshot_Config_2_s1 fuel x) 14010 (eBind x) := by
  refine ((wr_num x.1 0 1048576).bind (g := fun r => bif r.f1_bad then (bif (!true) then (lf_Psnapshot_writer_term_s1 fuel x.2 ⟨r.f0_b, true⟩) else some ⟨r.f0_b, true⟩) else (bif (!(!rightT x.2)) then (lf_Psnapshot_writer_term_s1 fuel x.2 ⟨r.f0_b, !rightT x.2⟩) else some ⟨r.f0_b, !rightT x.2⟩)) (M := 14000) (s := eT x.2) ?_).congr fun c => ?_
  · intro b bad hb
    cases bad with
    | true => exact ⟨b, true, rfl, by omega, id, fun h => by cases h⟩
    | false =>
      simp only [cond_false]
      unfold eT
      by_cases hr : rightT x.2 = true
      · obtain ⟨r1, r2, r3⟩ := rightT_in hr
        rw [if_pos hr, hr]
        obtain ⟨b', bad', e1, l1, m1, o1⟩ := (wr_term1 (rec := lf_snapshot_list_s4 fuel) x.2 r1 fun k => wr_args fuel x.2.ar (form_2 r1 k).2.2.2 (form_2 r1 k).2.2.1 (by have := (depth_2 k).1; omega)).le (M := 14000) (by omega) b false hb
        exact ⟨b', bad', e1, l1, m1, fun _ => o1 rfl⟩
      · rw [if_neg hr, Bool.not_eq_true _ |>.mp hr]
        exact ⟨b, true, rfl, by omega, fun _ => rfl, fun _ => rfl⟩
  · unfold lf_snapshot_Config_2_s1
    simp only [x_rightT_eq _ ha, Option.bind_some, bind_some']
theorem wr_frame {fuel : Nat} (hfu : 21 ≤ fuel) (f : S_api_Frame) (ha : wtL f.f0_Goal.ts ≤ 1000000000) : Wr S_snapshot_writer.mk (lf_Psnapshot_writer_frame_s1 fuel f) 14090 (eFrame f) := by
  unfold lf_Psnapshot_writer_frame_s1
  refine ((wr_num f.f1_ID 0 2147483648).bind ((wr_num f.f2_Occ (-1) 2147483648).bind (M := 14070) ?_)).le (by omega)
  intro b bad hb
  by_cases h0 : f.f1_ID = 0
  · simp only [h0, bind_some', beq_self_eq_true, cond_true, if_true]
    exact wr_goal hfu f.f0_Goal ha b bad hb
  · have h0' : (f.f1_ID == 0) = false := by simpa using h0
    simp only [h0', cond_false, if_neg h0]
    cases bad with
    | true => exact ⟨b, true, rfl, by omega, id, fun h => by cases h⟩
    | false =>
      simp only [cond_false]
      by_cases h1 : f.f0_Goal.op = 0
      · by_cases h2 : f.f0_Goal.n.toList = []
        · have e1 : (f.f0_Goal.op != 0) = false := by simp [h1]
          have e2 : (!(f.f0_Goal.n.toList == (⟨#[]⟩ : ByteArray).toList)) = false := by rw [h2, nilB]; rfl
          rw [e1, e2, cond_false, cond_false]
          refine ⟨b, _, rfl, by omega, fun h => (by cases h), fun _ => ?_⟩
          cases hts : f.f0_Goal.ts with
          | nil =>
            rw [if_pos ⟨h1, h2, rfl⟩]
            exact ⟨by simp, by simp⟩
          | cons x l =>
            rw [if_neg (by simp)]
            show _ = true
            simp
        · have e1 : (f.f0_Goal.op != 0) = false := by simp [h1]
          have e2 : (!(f.f0_Goal.n.toList == (⟨#[]⟩ : ByteArray).toList)) = true := by
            rw [Bool.not_eq_true', beq_eq_false_iff_ne, nilB]
            exact h2
          rw [e1, e2, cond_false, cond_true]
          exact ⟨b, true, rfl, by omega, fun _ => rfl, fun _ => by rw [if_neg (fun h => h2 h.2.1)]; rfl⟩
      · have e1 : (f.f0_Goal.op != 0) = true := by simpa using h1
        rw [e1, cond_true]
        exact ⟨b, true, rfl, by omega, fun _ => rfl, fun _ => by rw [if_neg (fun h => h1 h.1)]; rfl⟩
theorem loop_s6 (k : S_snapshot_writer → Option S_snapshot_writer) (fuel : Nat) : ∀ l c, lf_snapshot_list_s6_L0 k fuel l c = (runW (lf_Psnapshot_writer_frame_s1 fuel) l c).bind k
  | [], c => rfl
  | x :: l, c => by
    rw [lf_snapshot_list_s6_L0, runW, Option.bind_assoc]
    congr 1
    funext r
    exact loop_s6 k fuel l r
theorem wr_list6 {fuel : Nat} (hfu : 21 ≤ fuel) (l : List S_api_Frame) (ha : ∀ x ∈ l, wtL x.f0_Goal.ts ≤ 1000000000) : Wr S_snapshot_writer.mk (lf_snapshot_list_s6 fuel l 1000) (10 + 1000 * 14090) (eList 1000 eFrame l) := by
  unfold lf_snapshot_list_s6
  simp only [loop_s6, bind_some']
  exact wr_list (bad := S_snapshot_writer.f1_bad) (fun _ _ => rfl) (fun h => by omega) (wr_num _ 0 1000) (wr_run l fun x hx => wr_frame hfu x (ha x hx))
theorem wr_item {fuel : Nat} (hfu : 21 ≤ fuel) (x : Int × At) (ha : wtL x.2.ts ≤ 1000000000) : Wr S_snapshot_writer.mk (lf_snapshot_Config_1_s1 fuel x) 14070 (eItem x) := by
  unfold lf_snapshot_Config_1_s1
  exact ((wr_num x.1 0 2147483648).bind (wr_atom hfu x.2 ha).last)
theorem loop_s7 (k : S_snapshot_writer → Option S_snapshot_writer) (fuel : Nat) : ∀ l c, lf_snapshot_list_s7_L0 k fuel l c = (runW (lf_snapshot_Config_1_s1 fuel) l c).bind k
  | [], c => rfl
  | x :: l, c => by
    rw [lf_snapshot_list_s7_L0, runW, Option.bind_assoc]
    congr 1
    funext r
    exact loop_s7 k fuel l r
theorem wr_list7 {fuel : Nat} (hfu : 21 ≤ fuel) (l : List (Int × At)) (ha : ∀ x ∈ l, wtL x.2.ts ≤ 1000000000) : Wr S_snapshot_writer.mk (lf_snapshot_list_s7 fuel l 500) (10 + 500 * 14070) (eList 500 eItem l) := by
  unfold lf_snapshot_list_s7
  simp only [loop_s7, bind_some']
  exact wr_list (bad := S_snapshot_writer.f1_bad) (fun _ _ => rfl) (fun h => by omega) (wr_num _ 0 500) (wr_run l fun x hx => wr_item hfu x (ha x hx))
theorem loop_s8 (k : S_snapshot_writer → Option S_snapshot_writer) (fuel : Nat) : ∀ l c, lf_snapshot_list_s8_L0 k fuel l c = (runW (lf_snapshot_Config_2_s1 fuel) l c).bind k
  | [], c => rfl
  | x :: l, c => by
    rw [lf_snapshot_list_s8_L0, runW, Option.bind_assoc]
    congr 1
    funext r
    exact loop_s8 k fuel l r
theorem wr_list8 {fuel : Nat} (hfu : 21 ≤ fuel) (l : List (Int × T)) (ha : ∀ x ∈ l, wt x.2 ≤ 1000000000) : Wr S_snapshot_writer.mk (lf_snapshot_list_s8 fuel l 1048576) (10 + l.length * 14010) (eList 1048576 eBind l) := by
  unfold lf_snapshot_list_s8
  simp only [loop_s8, bind_some']
  exact wr_list (bad := S_snapshot_writer.f1_bad) (fun _ _ => rfl) (fun _ => Nat.le_refl _) (wr_num _ 0 1048576) (wr_run l fun x hx => wr_bindT hfu x (ha x hx))
theorem loop_s10 (k : S_snapshot_writer → Option S_snapshot_writer) (h : Int) : ∀ l c, lf_snapshot_list_s10_L0 k h l c = (runW (fun x => lf_Psnapshot_writer_numbers_1_s1 x h) l c).bind k
  | [], c => rfl
  | x :: l, c => by
    rw [lf_snapshot_list_s10_L0, runW, Option.bind_assoc]
    congr 1
    funext r
    exact loop_s10 k h l r
theorem wr_nums (l : List Int) (most hi : Int) {m : Nat} (hm : most ≤ (m : Int)) : Wr S_snapshot_writer.mk (lf_Psnapshot_writer_numbers_s1 l most hi) (10 + m * 10) (eNums most hi l) := by
  unfold lf_Psnapshot_writer_numbers_s1 lf_snapshot_list_s10
  simp only [loop_s10, bind_some']
  exact wr_list (bad := S_snapshot_writer.f1_bad) (fun _ _ => rfl) (fun h => by omega) (wr_num _ 0 most) (wr_run l fun x hx => (wr_num x 0 hi).last)
theorem wr_fire (x : S_api_Fire) : Wr S_snapshot_writer.mk (lf_snapshot_Config_3_s1 x) 60 (eFire x) := by
  unfold lf_snapshot_Config_3_s1
  exact ((wr_num x.f0_Rule 0 40).bind (wr_nums x.f1_IDs 4 2147483648 (m := 4) (by omega)).last)
theorem loop_s9 (k : S_snapshot_writer → Option S_snapshot_writer) : ∀ l c, lf_snapshot_list_s9_L0 k l c = (runW (lf_snapshot_Config_3_s1) l c).bind k
  | [], c => rfl
  | x :: l, c => by
    rw [lf_snapshot_list_s9_L0, runW, Option.bind_assoc]
    congr 1
    funext r
    exact loop_s9 k l r
theorem wr_list9 (l : List S_api_Fire) : Wr S_snapshot_writer.mk (lf_snapshot_list_s9 l 5000) (10 + 5000 * 60) (eList 5000 eFire l) := by
  unfold lf_snapshot_list_s9
  simp only [loop_s9, bind_some']
  exact wr_list (bad := S_snapshot_writer.f1_bad) (fun _ _ => rfl) (fun h => by omega) (wr_num _ 0 5000) (wr_run l fun x hx => wr_fire x)
/-- What is handed out at the end. -/
theorem out_of {f : S_snapshot_writer → Option S_snapshot_writer} {N : Nat} {r : Option (List Int)} (h : Wr S_snapshot_writer.mk f N r) (hN : N ≤ 1000000000) : ((f ⟨[], false⟩).bind fun c => lf_Psnapshot_writer_out_s1 c) = some (r.getD []) := by
  obtain ⟨b1, bad1, e1, l1, m1, o1⟩ := h [] false (by simpa using hN)
  rw [e1, Option.bind_some]
  have o1 := o1 rfl
  unfold lf_Psnapshot_writer_out_s1
  cases r with
  | none =>
    have o1 : bad1 = true := o1
    subst o1
    rfl
  | some e =>
    obtain ⟨rfl, rfl⟩ := o1
    simp
theorem len_of {f : S_snapshot_writer → Option S_snapshot_writer} {N : Nat} {r : Option (List Int)} (h : Wr S_snapshot_writer.mk f N r) (hN : N ≤ 999999999) (e : List Int) (he : r = some e) : e.length ≤ 999999999 := by
  subst he
  obtain ⟨b1, bad1, e1, l1, m1, o1⟩ := h [] false (by simp only [List.length_nil]; omega)
  obtain ⟨_, rfl⟩ := o1 rfl
  simp only [List.length_nil, List.nil_append] at l1
  omega
/-- What is asked of a state: few nodes, not too many bindings. -/
structure ConfigS (c : S_api_Config) : Prop where
  k : ∀ x ∈ c.f0_Stack, wtL x.f0_Goal.ts ≤ 1000000000
  s : ∀ x ∈ c.f1_Store, wtL x.2.ts ≤ 1000000000
  b : ∀ x ∈ c.f2_Binds, wt x.2 ≤ 1000000000
  n : c.f2_Binds.length ≤ 50000
theorem wr_Config {fuel : Nat} (hfu : 21 ≤ fuel) (c : S_api_Config) (h : ConfigS c) : lf_snapshot_Config fuel c = some ((eConfig c).getD []) := by
  have hn := h.n
  have h := ((wr_num 2 2 2).bind ((wr_list6 hfu c.f0_Stack h.k).bind ((wr_list7 hfu c.f1_Store h.s).bind ((wr_list8 hfu c.f2_Binds h.b).bind ((wr_list9 c.f3_Fired).bind ((wr_num c.f4_Next 0 2147483648).bind ((wr_num c.f5_Fresh 0 1048576).bind (wr_flag c.f6_Failed))))))))
  rw [← out_of (r := eConfig c) h (by omega)]
  unfold lf_snapshot_Config
  simp only [Option.bind_assoc, bind_some', Option.bind_some]
theorem len_Config {fuel : Nat} (hfu : 21 ≤ fuel) (c : S_api_Config) (h : ConfigS c) : ∀ e, eConfig c = some e → e.length ≤ 999999999 := by
  have hn := h.n
  have h := ((wr_num 2 2 2).bind ((wr_list6 hfu c.f0_Stack h.k).bind ((wr_list7 hfu c.f1_Store h.s).bind ((wr_list8 hfu c.f2_Binds h.b).bind ((wr_list9 c.f3_Fired).bind ((wr_num c.f4_Next 0 2147483648).bind ((wr_num c.f5_Fresh 0 1048576).bind (wr_flag c.f6_Failed))))))))
  exact len_of (r := eConfig c) h (by omega)
end Go.Proofs.YtdoljfkjdfaakaaGreat


namespace Go.Proofs.YtdoljfkjdfaakaaGreat
set_option maxRecDepth 100000
open Go.RowKit


/-! ### The reference -/
theorem wrR_num (n lo hi : Int) : Wr S_constraintref52_writer.mk (lf_Pconstraintref52_writer_num_s1 n lo hi) 10 (eNum lo hi n) := fun b bad hb => by
  have hl := encN_len n
  have hc : x_cPutInt b n = some (b ++ encN n) := if_pos (by omega)
  have hl2 : (b ++ encN n).length ≤ b.length + 10 := by
    rw [List.length_append]
    omega
  unfold lf_Pconstraintref52_writer_num_s1
  simp only [hc, Option.bind_some]
  cases bad with
  | true => exact ⟨b ++ encN n, true, by simp only [cond_true], hl2, id, fun h => by cases h⟩
  | false =>
    simp only [cond_false]
    by_cases h1 : n < lo
    · exact ⟨b ++ encN n, true, by rw [decide_eq_true h1, cond_true], hl2, fun _ => rfl, fun _ => okW_num (by simp; omega)⟩
    · exact ⟨b ++ encN n, decide (n > hi), by rw [decide_eq_false h1, cond_false], hl2, fun h => (by cases h), fun _ => okW_num (by simp; omega)⟩
theorem wrR_text (s : ByteArray) : Wr S_constraintref52_writer.mk (lf_Pconstraintref52_writer_text_s1 s) 50 (eText s) := fun b bad hb => by
  have hl := text_len s
  unfold lf_Pconstraintref52_writer_text_s1
  by_cases h : (s.size : Int) > 40
  · exact ⟨b, true, by rw [decide_eq_true h, cond_true], by omega, fun _ => rfl, fun _ => okW_text (by simp; omega) fun h => by omega⟩
  · have hc : x_cPutText b s = some (b ++ (encN s.size ++ toY s.data.toList)) := if_pos ⟨by omega, by omega⟩
    refine ⟨_, bad, by rw [decide_eq_false h, cond_false, hc]; rfl, by rw [List.length_append]; omega, id, fun h => okW_text (by rw [h]; simp; omega) fun _ => rfl⟩
theorem wrR_flag (x : Bool) : Wr S_constraintref52_writer.mk (lf_Pconstraintref52_writer_flag_s1 x) 1 (eBool x) := fun b bad hb => by
  have hc : x_cPutBool b x = some (b ++ [bif x then 1 else 0]) := if_pos (by omega)
  unfold lf_Pconstraintref52_writer_flag_s1
  simp only [hc, Option.bind_some]
  exact ⟨_, bad, rfl, by simp, id, fun h => ⟨h, rfl⟩⟩
section
variable {W α : Type} {mk : List Int → Bool → W} {bad : W → Bool} {put : α → W → Option W}
theorem runR_bad (l : List α) (c : W) : runR bad put l c = bif bad c then some c else runR bad put l c := by
  cases h : bad c with
  | false => rfl
  | true =>
    cases l with
    | nil => rfl
    | cons x l => simp [runR, h]
theorem wr_listR (hbad : ∀ b x, bad (mk b x) = x) {num : W → Option W} {most : Int} {e : α → Option (List Int)} {l : List α} {n m : Nat} (hm : (l.length : Int) ≤ most → l.length ≤ m) (hn : Wr mk num 10 (eNum 0 most (l.length : Int))) (hp : ∀ x ∈ l, Wr mk (put x) n (e x)) : Wr mk (fun c => (num c).bind (runR bad put l)) (10 + m * n) (eList most e l) := by
  refine (wr_list hbad hm hn (wr_runR hbad l hp)).congr fun c => ?_
  cases num c with
  | none => rfl
  | some r => exact (runR_bad l r).symm
end
mutual
theorem wt_form : ∀ t : T, formT t = true → wt t = sizeT t
  | .mk k i s ar, h => by
    simp only [formT] at h
    simp only [wt, sizeT]
    split at h
    · rename_i h0
      simp only [decide_eq_true_eq] at h
      have : ar = [] := List.eq_nil_of_length_eq_zero h.2.2.2
      subst this h0
      rfl
    · split at h
      · rename_i h1
        simp only [decide_eq_true_eq] at h
        have : ar = [] := List.eq_nil_of_length_eq_zero h.2.2.2
        subst this h1
        rfl
      · split at h
        · rename_i h2
          rw [Bool.and_eq_true] at h
          rw [if_pos h2, wtL_form ar h.2]
        · cases h
theorem wtL_form : ∀ l : List T, formL l = true → wtL l = sizeL l
  | [], _ => rfl
  | t :: l, h => by
    simp only [formL, Bool.and_eq_true] at h
    simp only [wtL, sizeL, wt_form t h.1, wtL_form l h.2]
end
theorem wrR_term1 {rec : List T → S_constraintref52_writer → Option S_constraintref52_writer} (t : T) (hw : rightT t = true) (hr : t.k = 2 → Wr S_constraintref52_writer.mk (rec t.ar) (10 + 70 * sizeL t.ar) (some (encN t.ar.length ++ bL t.ar))) : Wr S_constraintref52_writer.mk (lfo_Pconstraintref52_writer_term_s1 rec t) (70 * sizeT t) (some (bT t)) := by
  obtain ⟨hf, hs, hd⟩ := rightT_in hw
  have hp := size_pos t
  have hx : x_rightT t = some true := by rw [x_rightT_eq _ (by rw [wt_form t hf]; omega), hw]
  rcases form_k hf with k | k | k
  · rw [formT_0 k, decide_eq_true_eq] at hf
    refine (((wrR_num t.k 0 2).bind (wrR_num t.i (-2147483648) 2147483648).last).le (M := 70 * sizeT t) (by omega)).eq (s := some (bT t)) ?_ |>.congr fun c => ?_
    · rw [eNum_in (by omega) (by omega), eNum_in (by omega) (by omega), bT_n (by omega)]
      rfl
    · unfold lfo_Pconstraintref52_writer_term_s1
      simp [k, hx]
  · rw [formT_1 k, decide_eq_true_eq] at hf
    refine (((wrR_num t.k 0 2).bind (wrR_num t.i (-2147483648) 2147483648).last).le (M := 70 * sizeT t) (by omega)).eq (s := some (bT t)) ?_ |>.congr fun c => ?_
    · rw [eNum_in (by omega) (by omega), eNum_in (by omega) (by omega), bT_n (by omega)]
      rfl
    · unfold lfo_Pconstraintref52_writer_term_s1
      simp [k, hx]
  · obtain ⟨f1, f2, f3, f4⟩ := form_2 hf k
    have hz := (depth_2 k).2
    refine (((wrR_num t.k 0 2).bind ((wrR_text t.s).bind (hr k).last)).le (M := 70 * sizeT t) (by omega)).eq (s := some (bT t)) ?_ |>.congr fun c => ?_
    · rw [eNum_in (by omega) (by omega), eText_in f2, bT_2 k]
      rfl
    · unfold lfo_Pconstraintref52_writer_term_s1
      simp [k, hx]
theorem loopR_Pconstraintref52_writer_terms_s1_L0 (k : S_constraintref52_writer → Option S_constraintref52_writer) (rec : List T → S_constraintref52_writer → Option S_constraintref52_writer) : ∀ l c, lf_Pconstraintref52_writer_terms_s1_L0 k rec l c = (runR S_constraintref52_writer.f1_bad (lfo_Pconstraintref52_writer_term_s1 rec) l c).bind k
  | [], c => rfl
  | x :: l, c => by
    have ih := loopR_Pconstraintref52_writer_terms_s1_L0 k rec l
    rw [lf_Pconstraintref52_writer_terms_s1_L0, runR]
    cases hb : (!c.f1_bad) with
    | false => rfl
    | true => simp only [cond_true, Option.bind_assoc, ih]
theorem runsR_T {rec : List T → S_constraintref52_writer → Option S_constraintref52_writer} : ∀ (l : List T), (∀ t ∈ l, Wr S_constraintref52_writer.mk (lfo_Pconstraintref52_writer_term_s1 rec t) (70 * sizeT t) (some (bT t))) → Wr S_constraintref52_writer.mk (runR S_constraintref52_writer.f1_bad (lfo_Pconstraintref52_writer_term_s1 rec) l) (70 * sizeL l) (some (bL l))
  | [], _ => Wr.pure
  | x :: l, h => fun b bd hb => by
    cases bd with
    | false =>
      have := (((h x (by simp)).bind (runsR_T l fun y hy => h y (by simp [hy]))).eq (catO_in _ _)).le (M := 70 * sizeL (x :: l)) (by simp only [sizeL]; omega) b false hb
      obtain ⟨b', bad', e1, l1, m1, o1⟩ := this
      refine ⟨b', bad', ?_, l1, m1, fun _ => o1 rfl⟩
      simp only [runR, Bool.not_false, cond_true]
      exact e1
    | true => exact ⟨b, true, by simp [runR], by omega, id, fun h => by cases h⟩
theorem sizeL_mem {t : T} : ∀ {l : List T}, t ∈ l → sizeT t ≤ sizeL l
  | x :: l, h => by
    simp only [sizeL]
    rcases List.mem_cons.1 h with rfl | h
    · omega
    · have := sizeL_mem h
      omega
theorem formL_mem {t : T} : ∀ {l : List T}, formL l = true → t ∈ l → formT t = true
  | x :: l, hf, h => by
    simp only [formL, Bool.and_eq_true] at hf
    rcases List.mem_cons.1 h with rfl | h
    · exact hf.1
    · exact formL_mem hf.2 h
theorem rightT_of {t : T} (h1 : formT t = true) (h2 : sizeT t ≤ 200) (h3 : depthT t ≤ 20) : rightT t = true := by
  unfold rightT
  simp [h1, h2, h3]
theorem wrR_args : ∀ (fuel : Nat) (l : List T), formL l = true → l.length ≤ 6 → sizeL l ≤ 200 → depthL l ≤ 20 → depthL l < fuel → Wr S_constraintref52_writer.mk (lf_Pconstraintref52_writer_terms_s1 fuel l) (10 + 70 * sizeL l) (some (encN l.length ++ bL l))
  | 0, l, _, _, _, _, h => by omega
  | fuel + 1, l, hf, hl, hs, hd20, hd => by
    have hrun := runsR_T (rec := lf_Pconstraintref52_writer_terms_s1 fuel) l fun t ht => by
      have hft := formL_mem hf ht
      have h1 := depthL_mem ht
      have h2 := sizeL_mem ht
      refine wrR_term1 t (rightT_of hft (by omega) (by omega)) fun k => ?_
      have h3 := (depth_2 k).1
      have h4 := (depth_2 k).2
      exact wrR_args fuel t.ar (form_2 hft k).2.2.2 (form_2 hft k).2.2.1 (by omega) (by omega) (by omega)
    have := ((wrR_num (l.length : Int) 0 6).bind hrun).eq (s := some (encN l.length ++ bL l)) (by rw [eNum_in (by omega) (by omega)]; rfl)
    refine this.congr fun c => ?_
    rw [lf_Pconstraintref52_writer_terms_s1]
    simp only [loopR_Pconstraintref52_writer_terms_s1_L0, bind_some']
theorem wrR_term {fuel : Nat} (hfu : 21 ≤ fuel) (t : T) (ha : wt t ≤ 1000000000) : Wr S_constraintref52_writer.mk (lf_Pconstraintref52_writer_term_s1 fuel t) 14000 (eT t) := by
  unfold eT lf_Pconstraintref52_writer_term_s1
  by_cases hr : rightT t = true
  · rw [if_pos hr]
    obtain ⟨r1, r2, r3⟩ := rightT_in hr
    exact (wrR_term1 (rec := lf_Pconstraintref52_writer_terms_s1 fuel) t hr fun k => by
      have h3 := (depth_2 k).1
      have h4 := (depth_2 k).2
      exact wrR_args fuel t.ar (form_2 r1 k).2.2.2 (form_2 r1 k).2.2.1 (by omega) (by omega) (by omega)).le (by omega)
  · rw [if_neg hr]
    intro b bad hb
    unfold lfo_Pconstraintref52_writer_term_s1
    simp only [x_rightT_eq _ ha, Bool.not_eq_true _ |>.mp hr, Option.bind_some]
    exact ⟨b, true, rfl, by omega, fun _ => rfl, fun _ => rfl⟩
theorem wrR_atom {fuel : Nat} (hfu : 21 ≤ fuel) (a : At) (ha : wtL a.ts ≤ 1000000000) : Wr S_constraintref52_writer.mk (lf_Pconstraintref52_writer_atom_s1 fuel a) 14060 (eAtom a) := by
  unfold eAtom
  by_cases hr : rightA a = true
  · rw [if_pos hr]
    obtain ⟨r1, r2, r3⟩ := rightA_in hr
    obtain ⟨h1, h2, h3⟩ := rightL_in r3
    refine ((((wrR_text a.n).bind (wrR_args fuel a.ts h1 r2 h2 h3 (by omega)).last).le (M := 14060) (by omega)).eq (s := some (bArgs a.n a.ts)) (by rw [eText_in r1]; rfl)).congr fun c => ?_
    unfold lf_Pconstraintref52_writer_atom_s1
    simp only [x_rightA_eq _ ha, hr, Option.bind_some]
    rfl
  · rw [if_neg hr]
    intro b bad hb
    unfold lf_Pconstraintref52_writer_atom_s1
    simp only [x_rightA_eq _ ha, Bool.not_eq_true _ |>.mp hr, Option.bind_some]
    exact ⟨b, true, rfl, by omega, fun _ => rfl, fun _ => rfl⟩
theorem wrR_goal {fuel : Nat} (hfu : 21 ≤ fuel) (g : Gl) (ha : wtL g.ts ≤ 1000000000) : Wr S_constraintref52_writer.mk (lf_Pconstraintref52_writer_goal_s1 fuel g) 14070 (eGoal g) := by
  unfold eGoal
  by_cases hr : rightG g = true
  · rw [if_pos hr]
    obtain ⟨r0, r0', r1, r2, r3⟩ := rightG_in hr
    obtain ⟨h1, h2, h3⟩ := rightL_in r3
    refine ((((wrR_num g.op 0 12).bind ((wrR_text g.n).bind (wrR_args fuel g.ts h1 r2 h2 h3 (by omega)).last)).le (M := 14070) (by omega)).eq (s := some (encN g.op ++ bArgs g.n g.ts)) (by rw [eNum_in r0 r0', eText_in r1]; rfl)).congr fun c => ?_
    unfold lf_Pconstraintref52_writer_goal_s1
    simp only [x_rightG_eq _ ha, hr, Option.bind_some]
    rfl
  · rw [if_neg hr]
    intro b bad hb
    unfold lf_Pconstraintref52_writer_goal_s1
    simp only [x_rightG_eq _ ha, Bool.not_eq_true _ |>.mp hr, Option.bind_some]
    exact ⟨b, true, rfl, by omega, fun _ => rfl, fun _ => rfl⟩
theorem wrR_frame {fuel : Nat} (hfu : 21 ≤ fuel) (f : S_api_Frame) (ha : wtL f.f0_Goal.ts ≤ 1000000000) : Wr S_constraintref52_writer.mk (lf_Pconstraintref52_writer_frame_s1 fuel f) 14090 (eFrame f) := by
  unfold lf_Pconstraintref52_writer_frame_s1
  refine ((wrR_num f.f1_ID 0 2147483648).bind ((wrR_num f.f2_Occ (-1) 2147483648).bind (M := 14070) ?_)).le (by omega)
  intro b bad hb
  by_cases h0 : f.f1_ID = 0
  · simp only [h0, bind_some', beq_self_eq_true, cond_true, if_true]
    exact wrR_goal hfu f.f0_Goal ha b bad hb
  · have h0' : (f.f1_ID == 0) = false := by simpa using h0
    simp only [h0', cond_false, if_neg h0]
    cases bad with
    | true => exact ⟨b, true, rfl, by omega, id, fun h => by cases h⟩
    | false =>
      simp only [cond_false]
      by_cases h1 : f.f0_Goal.op = 0
      · by_cases h2 : f.f0_Goal.n.toList = []
        · have e1 : (f.f0_Goal.op != 0) = false := by simp [h1]
          have e2 : (!(f.f0_Goal.n.toList == (⟨#[]⟩ : ByteArray).toList)) = false := by rw [h2, nilB]; rfl
          rw [e1, e2, cond_false, cond_false]
          refine ⟨b, _, rfl, by omega, fun h => (by cases h), fun _ => ?_⟩
          cases hts : f.f0_Goal.ts with
          | nil =>
            rw [if_pos ⟨h1, h2, rfl⟩]
            exact ⟨by simp, by simp⟩
          | cons x l =>
            rw [if_neg (by simp)]
            show _ = true
            simp
        · have e1 : (f.f0_Goal.op != 0) = false := by simp [h1]
          have e2 : (!(f.f0_Goal.n.toList == (⟨#[]⟩ : ByteArray).toList)) = true := by
            rw [Bool.not_eq_true', beq_eq_false_iff_ne, nilB]
            exact h2
          rw [e1, e2, cond_false, cond_true]
          exact ⟨b, true, rfl, by omega, fun _ => rfl, fun _ => by rw [if_neg (fun h => h2 h.2.1)]; rfl⟩
      · have e1 : (f.f0_Goal.op != 0) = true := by simpa using h1
        rw [e1, cond_true]
        exact ⟨b, true, rfl, by omega, fun _ => rfl, fun _ => by rw [if_neg (fun h => h1 h.1)]; rfl⟩
theorem loopR_Pconstraintref52_writer_nums_s1_L0 (k : S_constraintref52_writer → Option S_constraintref52_writer) (h : Int) : ∀ l c, lf_Pconstraintref52_writer_nums_s1_L0 k h l c = (runR S_constraintref52_writer.f1_bad (fun x => lf_Pconstraintref52_writer_num_s1 x 0 h) l c).bind k
  | [], c => rfl
  | x :: l, c => by
    have ih := loopR_Pconstraintref52_writer_nums_s1_L0 k h l
    rw [lf_Pconstraintref52_writer_nums_s1_L0, runR]
    cases hb : (!c.f1_bad) with
    | false => rfl
    | true => simp only [cond_true, Option.bind_assoc, ih]
theorem wrR_nums (l : List Int) (most hi : Int) {m : Nat} (hm : most ≤ (m : Int)) : Wr S_constraintref52_writer.mk (lf_Pconstraintref52_writer_nums_s1 l most hi) (10 + m * 10) (eNums most hi l) := by
  refine (wr_listR (bad := S_constraintref52_writer.f1_bad) (fun _ _ => rfl) (fun h => by omega) (wrR_num _ 0 most) fun x hx => wrR_num x 0 hi).congr fun c => ?_
  unfold lf_Pconstraintref52_writer_nums_s1
  simp only [loopR_Pconstraintref52_writer_nums_s1_L0, bind_some']
noncomputable def putItem (fuel : Nat) (x : Int × At) (c : S_constraintref52_writer) : Option S_constraintref52_writer := (lf_Pconstraintref52_writer_num_s1 x.1 0 2147483648 c).bind fun r => lf_Pconstraintref52_writer_atom_s1 fuel x.2 r
theorem wrR_item {fuel : Nat} (hfu : 21 ≤ fuel) (x : Int × At) (ha : wtL x.2.ts ≤ 1000000000) : Wr S_constraintref52_writer.mk (putItem fuel x) 14070 (eItem x) := (wrR_num x.1 0 2147483648).bind (wrR_atom hfu x.2 ha)
noncomputable def putBind (fuel : Nat) (x : Int × T) (c : S_constraintref52_writer) : Option S_constraintref52_writer := (lf_Pconstraintref52_writer_num_s1 x.1 0 1048576 c).bind fun r => lf_Pconstraintref52_writer_term_s1 fuel x.2 r
theorem wrR_bind {fuel : Nat} (hfu : 21 ≤ fuel) (x : Int × T) (ha : wt x.2 ≤ 1000000000) : Wr S_constraintref52_writer.mk (putBind fuel x) 14010 (eBind x) := (wrR_num x.1 0 1048576).bind (wrR_term hfu x.2 ha)
noncomputable def putFire (x : S_api_Fire) (c : S_constraintref52_writer) : Option S_constraintref52_writer := (lf_Pconstraintref52_writer_num_s1 x.f0_Rule 0 40 c).bind fun r => lf_Pconstraintref52_writer_nums_s1 x.f1_IDs 4 2147483648 r
theorem wrR_fire (x : S_api_Fire) : Wr S_constraintref52_writer.mk (putFire x) 60 (eFire x) := (wrR_num x.f0_Rule 0 40).bind (wrR_nums x.f1_IDs 4 2147483648 (m := 4) (by omega))
theorem loopR_constraintref52_Config_L0 (k : S_constraintref52_writer → Option (List Int)) (fuel : Nat) : ∀ l c, lf_constraintref52_Config_L0 k fuel l c = (runR S_constraintref52_writer.f1_bad (lf_Pconstraintref52_writer_frame_s1 fuel) l c).bind k
  | [], c => rfl
  | x :: l, c => by
    have ih := loopR_constraintref52_Config_L0 k fuel l
    rw [lf_constraintref52_Config_L0, runR]
    cases hb : (!c.f1_bad) with
    | false => rfl
    | true => simp only [cond_true, Option.bind_assoc, ih]
theorem loopR_constraintref52_Config_L1 (k : S_constraintref52_writer → Option (List Int)) (fuel : Nat) : ∀ l c, lf_constraintref52_Config_L1 k fuel l c = (runR S_constraintref52_writer.f1_bad (putItem fuel) l c).bind k
  | [], c => rfl
  | x :: l, c => by
    have ih := loopR_constraintref52_Config_L1 k fuel l
    rw [lf_constraintref52_Config_L1, runR]
    cases hb : (!c.f1_bad) with
    | false => rfl
    | true => simp only [cond_true, Option.bind_assoc, ih, putItem]
theorem loopR_constraintref52_Config_L2 (k : S_constraintref52_writer → Option (List Int)) (fuel : Nat) : ∀ l c, lf_constraintref52_Config_L2 k fuel l c = (runR S_constraintref52_writer.f1_bad (putBind fuel) l c).bind k
  | [], c => rfl
  | x :: l, c => by
    have ih := loopR_constraintref52_Config_L2 k fuel l
    rw [lf_constraintref52_Config_L2, runR]
    cases hb : (!c.f1_bad) with
    | false => rfl
    | true => simp only [cond_true, Option.bind_assoc, ih, putBind]
theorem loopR_constraintref52_Config_L3 (k : S_constraintref52_writer → Option (List Int)) : ∀ l c, lf_constraintref52_Config_L3 k l c = (runR S_constraintref52_writer.f1_bad (putFire) l c).bind k
  | [], c => rfl
  | x :: l, c => by
    have ih := loopR_constraintref52_Config_L3 k l
    rw [lf_constraintref52_Config_L3, runR]
    cases hb : (!c.f1_bad) with
    | false => rfl
    | true => simp only [cond_true, Option.bind_assoc, ih, putFire]
theorem out_ofR {f : S_constraintref52_writer → Option S_constraintref52_writer} {N : Nat} {r : Option (List Int)} (h : Wr S_constraintref52_writer.mk f N r) (hN : N ≤ 1000000000) : ((f ⟨[], false⟩).bind fun c => lf_Pconstraintref52_writer_bytes_s1 c) = some (r.getD []) := by
  obtain ⟨b1, bad1, e1, l1, m1, o1⟩ := h [] false (by simpa using hN)
  rw [e1, Option.bind_some]
  have o1 := o1 rfl
  unfold lf_Pconstraintref52_writer_bytes_s1
  cases r with
  | none =>
    have o1 : bad1 = true := o1
    subst o1
    rfl
  | some e =>
    obtain ⟨rfl, rfl⟩ := o1
    simp
theorem wrR_Config {fuel : Nat} (hfu : 21 ≤ fuel) (c : S_api_Config) (h : ConfigS c) : lf_constraintref52_Config fuel c = some ((eConfig c).getD []) := by
  have hn := h.n
  have h := ((wrR_num 2 2 2).bind ((wr_listR (bad := S_constraintref52_writer.f1_bad) (put := lf_Pconstraintref52_writer_frame_s1 fuel) (l := c.f0_Stack) (m := 1000) (fun _ _ => rfl) (fun h => by omega) (wrR_num _ 0 1000) fun x hx => wrR_frame hfu x (h.k x hx)).bind ((wr_listR (bad := S_constraintref52_writer.f1_bad) (put := putItem fuel) (l := c.f1_Store) (m := 500) (fun _ _ => rfl) (fun h => by omega) (wrR_num _ 0 500) fun x hx => wrR_item hfu x (h.s x hx)).bind ((wr_listR (bad := S_constraintref52_writer.f1_bad) (put := putBind fuel) (l := c.f2_Binds) (m := c.f2_Binds.length) (fun _ _ => rfl) (fun h => Nat.le_refl _) (wrR_num _ 0 1048576) fun x hx => wrR_bind hfu x (h.b x hx)).bind ((wr_listR (bad := S_constraintref52_writer.f1_bad) (put := putFire) (l := c.f3_Fired) (m := 5000) (fun _ _ => rfl) (fun h => by omega) (wrR_num _ 0 5000) fun x hx => wrR_fire x).bind ((wrR_num c.f4_Next 0 2147483648).bind ((wrR_num c.f5_Fresh 0 1048576).bind (wrR_flag c.f6_Failed))))))))
  rw [← out_ofR (r := eConfig c) h (by omega)]
  unfold lf_constraintref52_Config
  simp only [loopR_constraintref52_Config_L0, loopR_constraintref52_Config_L1, loopR_constraintref52_Config_L2, loopR_constraintref52_Config_L3, Option.bind_assoc, bind_some']
end Go.Proofs.YtdoljfkjdfaakaaGreat


namespace Go.Proofs.YtdoljfkjdfaakaaGreat
set_option maxRecDepth 100000
open Go.RowKit

/-- No beginning of an integer's bytes is an integer: it is too short. -/
theorem rawM_cut : ∀ (f k u : Nat) (l r : List UInt8), u ≤ f → u * 128 ^ k < 18446744073709551616 → k ≤ 9 → r ≠ [] → enc u = l ++ r → rawM k l = (0, 0, 4)
  | _, _, _, [], _, _, _, _, _, _ => rfl
  | f, k, u, c :: l, r, hf, hu, hk, hr, he => by
    rcases Nat.lt_or_ge u 128 with h | h
    · rw [enc_small h] at he
      simp only [List.cons_append, List.cons.injEq] at he
      have := he.2
      cases l with
      | nil => exact absurd this.symm hr
      | cons => simp at this
    · rw [enc_big h] at he
      simp only [List.cons_append, List.cons.injEq] at he
      obtain ⟨rfl, he⟩ := he
      have hc : (UInt8.ofNat (u % 128 + 128)).toNat = u % 128 + 128 := by
        simp only [UInt8.toNat_ofNat']
        omega
      have hk9 : k < 9 := by
        rcases Nat.lt_or_ge k 9 with h9 | h9
        · exact h9
        · have : k = 9 := by omega
          subst this
          omega
      cases f with
      | zero => omega
      | succ f =>
        have h1 : u / 128 * 128 ^ (k + 1) < 18446744073709551616 := by
          have : u / 128 * 128 ^ (k + 1) = (u / 128 * 128) * 128 ^ k := by rw [Nat.pow_succ, Nat.mul_assoc, Nat.mul_comm 128]
          rw [this]
          exact Nat.lt_of_le_of_lt (Nat.mul_le_mul_right _ (Nat.div_mul_le_self u 128)) hu
        have ih := rawM_cut f (k + 1) (u / 128) l r (by omega) h1 (by omega) hr he
        rw [rawM_cons, hc, if_neg (by omega), if_neg (by omega), ih]
        rfl
theorem ofY_app (l m : List Int) : ofY (l ++ m) = ofY l ++ ofY m := List.map_append
theorem drop_ofY (a b : List Int) : (ofY (a ++ b)).drop a.length = ofY b := by
  rw [ofY_app, ← len_ofY a, List.drop_left]
theorem zig64 {n : Int} (h1 : -9223372036854775808 ≤ n) (h2 : n < 9223372036854775808) : zig n * 128 ^ 0 < 18446744073709551616 := by
  have := zig_lt h1 h2
  omega
theorem intM_in {n lo hi : Int} (hl : lo ≤ n) (hh : n ≤ hi) (h1 : -9223372036854775808 ≤ n) (h2 : n < 9223372036854775808) (a z : List Int) : intM (ofY (a ++ encN n ++ z)) (a.length : Int) lo hi = (n, ((a ++ encN n).length : Int), 0) := by
  have e : (rawM 0 ((ofY (a ++ encN n ++ z)).drop (a.length : Int).toNat)) = (zig n, (enc (zig n)).length, 0) := by
    rw [Int.toNat_natCast, List.append_assoc, drop_ofY, ofY_app, encN_eq h1 h2, ofY_toY]
    exact rawM_of 0 (zig n) _ (zig64 h1 h2) (by omega) (by omega)
  have hlen : (encN n).length = (enc (zig n)).length := by rw [encN_eq h1 h2, len_toY]
  unfold intM
  rw [e, if_neg (by rw [len_ofY]; simp only [List.length_append]; omega), if_neg (by simp), if_neg (by rw [zag_zig]; omega), zag_zig]
  simp only [List.length_append, hlen]
  simp
theorem intM_cut {n lo hi : Int} (hl : lo ≤ n) (hh : n ≤ hi) (h1 : -9223372036854775808 ≤ n) (h2 : n < 9223372036854775808) (a t z : List Int) (hz : z ≠ []) (he : encN n = t ++ z) : intM (ofY (a ++ t)) (a.length : Int) lo hi = (0, 0, 4) := by
  have e : (rawM 0 ((ofY (a ++ t)).drop (a.length : Int).toNat)) = (0, 0, 4) := by
    rw [Int.toNat_natCast, drop_ofY]
    refine rawM_cut (zig n) 0 (zig n) (ofY t) (ofY z) (Nat.le_refl _) (zig64 h1 h2) (by omega) (fun h => hz ?_) ?_
    · have := congrArg List.length h
      rw [len_ofY] at this
      exact List.eq_nil_of_length_eq_zero (by simpa using this)
    · rw [← ofY_app, ← he, encN_eq h1 h2, ofY_toY]
  unfold intM
  rw [e, if_neg (by rw [len_ofY]; simp only [List.length_append]; omega), if_pos (by simp)]
  rfl

/-! ### readers -/
section
variable {α β : Type} {f : RR → Option (Int ⊕ (α × RR))} {G : α × RR → Option (Int ⊕ (β × RR))} {x : α} {y : β} {e e' : List Int} {r s : Option (List Int)}
end
theorem bindX_ok {α β : Type} (a : α) (f : α → Option (Int ⊕ β)) : bindX (some (.inr a)) f = f a := rfl
theorem bindX_assoc {α β γ : Type} (x : Option (Int ⊕ α)) (f : α → Option (Int ⊕ β)) (g : β → Option (Int ⊕ γ)) : bindX (bindX x f) g = bindX x fun a => bindX (f a) g := by
  cases x with
  | none => rfl
  | some s => cases s <;> rfl
theorem rd_num {lo hi n : Int} (h1 : -9223372036854775808 ≤ lo) (h2 : hi < 9223372036854775808) : RdO (lf_Psnapshot_reader_number_s1 lo hi) (eNum lo hi n) n := fun e he => by
  unfold eNum at he
  split at he
  · rename_i h
    obtain rfl := Option.some.inj he
    refine ⟨fun a z hl => ?_, fun a t z hl hz ht => ?_⟩
    · have hx : x_cInt (a ++ encN n ++ z) (a.length : Int) lo hi = some (n, ((a ++ encN n).length : Int), 0) := by
        rw [x_cInt, if_pos hl, intM_in h.1 h.2 (by omega) (by omega)]
      unfold lf_Psnapshot_reader_number_s1
      simp only [hx, Option.bind_some]
      rfl
    · have hx : x_cInt (a ++ t) (a.length : Int) lo hi = some (0, 0, 4) := by
        rw [x_cInt, if_pos hl, intM_cut h.1 h.2 (by omega) (by omega) a t z hz ht]
      unfold lf_Psnapshot_reader_number_s1
      simp only [hx, Option.bind_some]
      rfl
  · cases he
theorem strB (s : ByteArray) : (⟨(s.data.toList).toArray⟩ : ByteArray) = s := by
  cases s
  rfl
theorem rd_text (s : ByteArray) : RdO lf_Psnapshot_reader_text_s1 (eText s) s := fun e he => by
  unfold eText at he
  split at he
  · rename_i h
    obtain rfl := Option.some.inj he
    have hs : s.data.toList.length = s.size := Array.length_toList
    refine ⟨fun a z hl => ?_, fun a t z hl hz ht => ?_⟩
    · have hI := intM_in (n := (s.size : Int)) (lo := 0) (hi := 40) (by omega) (by omega) (by omega) (by omega) a (toY s.data.toList ++ z)
      have hx : x_cText (a ++ (encN s.size ++ toY s.data.toList) ++ z) (a.length : Int) 40 = some (s, ((a ++ (encN s.size ++ toY s.data.toList)).length : Int), 0) := by
        have hI' : intM (ofY (a ++ (encN s.size ++ toY s.data.toList) ++ z)) (a.length : Int) 0 40 = ((s.size : Int), ((a ++ encN s.size).length : Int), 0) := by
          simpa only [List.append_assoc] using hI
        have hd : (ofY (a ++ (encN s.size ++ toY s.data.toList) ++ z)).drop (a ++ encN (s.size : Int)).length = s.data.toList ++ ofY z := by
          have : a ++ (encN s.size ++ toY s.data.toList) ++ z = (a ++ encN s.size) ++ (toY s.data.toList ++ z) := by simp only [List.append_assoc]
          rw [this, drop_ofY, ofY_app, ofY_toY]
        have ht : textM (ofY (a ++ (encN s.size ++ toY s.data.toList) ++ z)) (a.length : Int) 40 = (s.data.toList, ((a ++ (encN s.size ++ toY s.data.toList)).length : Int), 0) := by
          unfold textM
          rw [hI', if_neg (by omega), if_neg (by simp), if_neg (by rw [len_ofY]; simp only [List.length_append, len_toY, hs]; omega)]
          simp only [Int.toNat_natCast, hd]
          rw [← hs, List.take_left]
          simp only [List.length_append, len_toY, hs]
          congr 2
          omega
        rw [x_cText, if_pos hl, ht, strB]
      unfold lf_Psnapshot_reader_text_s1
      simp only [hx, Option.bind_some]
      rfl
    · have hx : ∃ s', x_cText (a ++ t) (a.length : Int) 40 = some (s', 0, 4) := by
        rw [x_cText, if_pos hl]
        rcases List.append_eq_append_iff.1 ht with ⟨a', rfl, h2⟩ | ⟨c', h1, h2⟩
        · have hI := intM_in (n := (s.size : Int)) (lo := 0) (hi := 40) (by omega) (by omega) (by omega) (by omega) a a'
          have hlt : a'.length < s.size := by
            have := congrArg List.length h2
            rw [len_toY, hs, List.length_append] at this
            have : 0 < z.length := List.length_pos_iff.2 hz
            omega
          have ht : textM (ofY (a ++ (encN s.size ++ a'))) (a.length : Int) 40 = ([], 0, 4) := by
            unfold textM
            rw [← List.append_assoc, hI, if_neg (by omega), if_neg (by simp), if_pos (by rw [len_ofY]; simp only [List.length_append]; omega)]
          rw [ht]
          exact ⟨_, rfl⟩
        · by_cases hc : c' = []
          · subst hc
            rw [List.append_nil] at h1
            subst h1
            have hI := intM_in (n := (s.size : Int)) (lo := 0) (hi := 40) (by omega) (by omega) (by omega) (by omega) a []
            rw [List.append_nil] at hI
            have hlt : 0 < s.size := by
              rw [List.nil_append] at h2
              have := congrArg List.length h2
              rw [len_toY, hs] at this
              have : 0 < z.length := List.length_pos_iff.2 hz
              omega
            have ht : textM (ofY (a ++ encN s.size)) (a.length : Int) 40 = ([], 0, 4) := by
              unfold textM
              rw [hI, if_neg (by omega), if_neg (by simp), if_pos (by rw [len_ofY]; dsimp only; omega)]
            rw [ht]
            exact ⟨_, rfl⟩
          · have hI := intM_cut (n := (s.size : Int)) (lo := 0) (hi := 40) (by omega) (by omega) (by omega) (by omega) a t c' hc h1
            have ht : textM (ofY (a ++ t)) (a.length : Int) 40 = ([], 0, 4) := by
              unfold textM
              rw [hI, if_neg (by omega), if_pos (by simp)]
            rw [ht]
            exact ⟨_, rfl⟩
      obtain ⟨s', hx⟩ := hx
      unfold lf_Psnapshot_reader_text_s1
      simp only [hx, Option.bind_some]
      rfl
  · cases he
theorem rd_flag (x : Bool) : RdO lf_Psnapshot_reader_flag_s1 (eBool x) x := fun e he => by
  obtain rfl := Option.some.inj he
  refine ⟨fun a z hl => ?_, fun a t z hl hz ht => ?_⟩
  · have hg : getI (a ++ [bif x then 1 else 0] ++ z) (a.length : Int) = some (bif x then 1 else 0) := by
      rw [getI_nat]
      simp
    have hx : lf_codec_Bool (a ++ [bif x then 1 else 0] ++ z) (a.length : Int) = some (x, ((a ++ [bif x then (1 : Int) else 0]).length : Int), 0) := by
      have h1 : decide ((a.length : Int) < 0) = false := decide_eq_false (by omega)
      have h2 : decide ((a.length : Int) > ((a ++ [bif x then (1 : Int) else 0] ++ z).length : Int)) = false := decide_eq_false (by simp only [List.length_append]; omega)
      have h3 : ((a.length : Int) == ((a ++ [bif x then (1 : Int) else 0] ++ z).length : Int)) = false := by
        rw [beq_eq_false_iff_ne]
        simp only [List.length_append, List.length_singleton]
        omega
      unfold lf_codec_Bool
      rw [h1, h2, h3, hg]
      have h4 : wr ((a.length : Int) + 1) = ((a ++ [bif x then (1 : Int) else 0]).length : Int) := by
        rw [wr_eq (by simp only [List.length_append] at hl; omega)]
        simp
      cases x <;> simp [h4] <;> simpa using h4
    unfold lf_Psnapshot_reader_flag_s1
    simp only [hx, Option.bind_some]
    rfl
  · have h0 : t = [] := by
      cases t with
      | nil => rfl
      | cons y t =>
        have := congrArg List.length ht
        simp at this
        exact absurd this.2 hz
    subst h0
    have hx : lf_codec_Bool (a ++ []) (a.length : Int) = some (false, 0, 4) := by
      have h1 : decide ((a.length : Int) < 0) = false := decide_eq_false (by omega)
      have h2 : decide ((a.length : Int) > ((a ++ ([] : List Int)).length : Int)) = false := decide_eq_false (by simp)
      have h3 : ((a.length : Int) == ((a ++ ([] : List Int)).length : Int)) = true := by simp
      unfold lf_codec_Bool
      rw [h1, h2, h3]
      rfl
    unfold lf_Psnapshot_reader_flag_s1
    simp only [hx, Option.bind_some]
    rfl
/-- A list, one by one. -/
def runT {α : Type} (one : RR → Option (Int ⊕ (α × RR))) (sz : Nat) : Nat → List α → RR → Option (Int ⊕ (List α × RR))
  | 0, out, c => some (.inr (out, c))
  | n + 1, out, c => bindX (one c) fun q => (appO sz out [q.1]).bind fun l => runT one sz n l q.2
theorem rd_run {α : Type} {one : RR → Option (Int ⊕ (α × RR))} {sz : Nat} (hsz : sz ≤ 1000) {e : α → Option (List Int)} : ∀ (l out : List α), (∀ x ∈ l, RdO one (e x) x) → out.length + l.length ≤ 10000000 → RdO (runT one sz l.length out) (eCat e l) (out ++ l)
  | [], out, _, _ => fun e he => by
    obtain rfl := Option.some.inj he
    rw [List.append_nil]
    exact Rdr.pure
  | x :: l, out, h, hl => by
    have ih := rd_run hsz (one := one) (e := e) l (out ++ [x]) (fun y hy => h y (by simp [hy])) (by simp only [List.length_append, List.length_cons, List.length_nil] at hl ⊢; omega)
    rw [List.append_assoc, List.singleton_append] at ih
    refine RdO.bind (h x (by simp)) (G := fun q => (appO sz out [q.1]).bind fun l_ => runT one sz l.length l_ q.2) (ih.congr fun c => ?_)
    have : appO sz out [x] = some (out ++ [x]) := by
      have : (out.length + [x].length) * sz ≤ 10000000 * 1000 := Nat.mul_le_mul (by simp only [List.length_cons, List.length_nil] at hl ⊢; omega) hsz
      exact appO_eq (by omega) (by simp only [List.length_cons, List.length_nil] at hl ⊢; omega)
    show _ = (appO sz out [x]).bind _
    rw [this]
    rfl
theorem rd_take {α : Type} {one : RR → Option (Int ⊕ (α × RR))} {sz : Nat} (hsz : sz ≤ 1000) {e : α → Option (List Int)} {most : Int} (hm : most ≤ 10000000) {l : List α} (h : ∀ x ∈ l, RdO one (e x) x) : RdO (fun c => bindX (lf_Psnapshot_reader_number_s1 0 most c) fun r => runT one sz (r.1 - 0 : Int).toNat [] r.2) (eList most e l) l := by
  intro E hE
  obtain ⟨a, b, h1, h2, rfl⟩ := catO_some hE
  have hl : (l.length : Int) ≤ most := by
    unfold eNum at h1
    split at h1
    · rename_i h
      exact h.2
    · cases h1
  have hr := rd_run hsz l [] h (by simp only [List.length_nil]; omega)
  rw [List.nil_append] at hr
  refine Rdr.bind (rd_num (by omega) (by omega) a h1) (G := fun r => runT one sz (r.1 - 0 : Int).toNat [] r.2) ((hr b h2).congr fun c => ?_)
  show _ = runT one sz ((l.length : Int) - 0).toNat [] c
  rw [Int.sub_zero, Int.toNat_natCast]
end Go.Proofs.YtdoljfkjdfaakaaGreat


namespace Go.Proofs.YtdoljfkjdfaakaaGreat
set_option maxRecDepth 100000
open Go.RowKit

theorem loopT_s1 (rec : Int → RR → Option (Int ⊕ (List T × RR))) (d : Int) : ∀ (n : Nat) (out : List T) (c : RR), lf_snapshot_take_s1_L0 (fun o r => some (.inr (o, r))) rec d n out c = runT (lfo_Psnapshot_reader_args_1_s1 rec d) 56 n out c
  | 0, out, c => rfl
  | n + 1, out, c => by
    rw [lf_snapshot_take_s1_L0, runT]
    simp only [loopT_s1 rec d n]
theorem args_1 (rec : Int → RR → Option (Int ⊕ (List T × RR))) (d : Int) (c : RR) : lfo_Psnapshot_reader_args_1_s1 rec d c = lfo_Psnapshot_reader_term_s1 rec d c := by
  unfold lfo_Psnapshot_reader_args_1_s1
  cases lfo_Psnapshot_reader_term_s1 rec d c with
  | none => rfl
  | some s => cases s <;> rfl
theorem bindX_id {α : Type} (x : Option (Int ⊕ (α × RR))) : (bindX x fun r => some (.inr (r.1, r.2))) = x := by
  cases x with
  | none => rfl
  | some s => cases s <;> rfl
theorem rd_term1 {rec : Int → RR → Option (Int ⊕ (List T × RR))} (t : T) (d : Int) (hd0 : 0 ≤ d) (hd : d + depthT t ≤ 20) (hf : formT t = true) (hr : t.k = 2 → Rdr (rec (wr (d + 1))) (encN t.ar.length ++ bL t.ar) t.ar) : Rdr (lfo_Psnapshot_reader_term_s1 rec d) (bT t) t := by
  have h19 : decide (d > 19) = false := decide_eq_false (by
    have : 1 ≤ depthT t := by rw [depthT_eq]; omega
    omega)
  have hcong : ∀ (r : Option (List Int)) (x : T), r = some (bT t) → RdO (fun c => bindX (lf_Psnapshot_reader_number_s1 0 2 c) fun r_3 => bif (r_3.1 == (0 : Int)) then (bindX (lf_Psnapshot_reader_number_s1 (-2147483648) 2147483648 r_3.2) fun r_6 => some (.inr ((T.mk r_3.1 r_6.1 ⟨#[]⟩ []), r_6.2))) else (bif (r_3.1 == (1 : Int)) then (bindX (lf_Psnapshot_reader_number_s1 0 1048576 r_3.2) fun r_8 => some (.inr ((T.mk r_3.1 r_8.1 ⟨#[]⟩ []), r_8.2))) else (bindX (lf_Psnapshot_reader_text_s1 r_3.2) fun r_9 => bindX (rec (wr (d + (1 : Int))) r_9.2) fun r_10 => some (.inr ((T.mk r_3.1 0 r_9.1 r_10.1), r_10.2))))) r x → Rdr (lfo_Psnapshot_reader_term_s1 rec d) (bT t) x := fun r x hr h => (h _ hr).congr fun c => by
    unfold lfo_Psnapshot_reader_term_s1
    rw [h19]
    rfl
  rcases form_k hf with k | k | k
  · have hf' := hf
    rw [formT_0 k, decide_eq_true_eq] at hf'
    refine hcong (catO (eNum 0 2 t.k) (eNum (-2147483648) 2147483648 t.i)) t (by rw [eNum_in (by omega) (by omega), eNum_in (by omega) (by omega), bT_n (by omega)]; rfl) (.bind (rd_num (by omega) (by omega)) (RdO.congr (.last (rd_num (by omega) (by omega)) (G := fun r_6 => some (.inr ((T.mk t.k r_6.1 ⟨#[]⟩ []), r_6.2))) fun c => ?_) fun c => ?_))
    · have h1 : t.s = ⟨#[]⟩ := nil_of_list hf'.2.2.1
      have h2 : t.ar = [] := List.eq_nil_of_length_eq_zero hf'.2.2.2
      have : T.mk t.k t.i ⟨#[]⟩ [] = t := by rw [← h1, ← h2]; cases t; rfl
      simp only [this]
    · simp only [k]
      rfl
  · have hf' := hf
    rw [formT_1 k, decide_eq_true_eq] at hf'
    refine hcong (catO (eNum 0 2 t.k) (eNum 0 1048576 t.i)) t (by rw [eNum_in (by omega) (by omega), eNum_in (by omega) (by omega), bT_n (by omega)]; rfl) (.bind (rd_num (by omega) (by omega)) (RdO.congr (.last (rd_num (by omega) (by omega)) (G := fun r_6 => some (.inr ((T.mk t.k r_6.1 ⟨#[]⟩ []), r_6.2))) fun c => ?_) fun c => ?_))
    · have h1 : t.s = ⟨#[]⟩ := nil_of_list hf'.2.2.1
      have h2 : t.ar = [] := List.eq_nil_of_length_eq_zero hf'.2.2.2
      have : T.mk t.k t.i ⟨#[]⟩ [] = t := by rw [← h1, ← h2]; cases t; rfl
      simp only [this]
    · simp only [k]
      rfl
  · obtain ⟨f1, f2, f3, f4⟩ := form_2 hf k
    have hrec : RdO (rec (wr (d + 1))) (some (encN t.ar.length ++ bL t.ar)) t.ar := fun e he => by
      obtain rfl := Option.some.inj he
      exact hr k
    refine hcong (catO (eNum 0 2 t.k) (catO (eText t.s) (some (encN t.ar.length ++ bL t.ar)))) t (by rw [eNum_in (by omega) (by omega), eText_in f2, bT_2 k]; rfl) (.bind (rd_num (by omega) (by omega)) (RdO.congr (.bind (rd_text t.s) (G := fun r_9 => bindX (rec (wr (d + (1 : Int))) r_9.2) fun r_10 => some (.inr ((T.mk t.k 0 r_9.1 r_10.1), r_10.2))) (RdO.last (f := rec (wr (d + 1))) (G := fun r_10 => some (.inr ((T.mk t.k 0 t.s r_10.1), r_10.2))) hrec fun c => ?_)) fun c => ?_))
    · have : T.mk t.k 0 t.s t.ar = t := by rw [← f1]; cases t; rfl
      simp only [this]
    · simp only [k]
      rfl
theorem bL_run {one : RR → Option (Int ⊕ (T × RR))} : ∀ (l out : List T), (∀ t ∈ l, Rdr one (bT t) t) → out.length + l.length ≤ 10000000 → Rdr (runT one 56 l.length out) (bL l) (out ++ l)
  | [], out, _, _ => by
    rw [List.append_nil]
    exact Rdr.pure
  | x :: l, out, h, hl => by
    have ih := bL_run (one := one) l (out ++ [x]) (fun y hy => h y (by simp [hy])) (by simp only [List.length_append, List.length_cons, List.length_nil] at hl ⊢; omega)
    rw [List.append_assoc, List.singleton_append] at ih
    refine Rdr.bind (h x (by simp)) (G := fun q => (appO 56 out [q.1]).bind fun l_ => runT one 56 l.length l_ q.2) (ih.congr fun c => ?_)
    have : appO 56 out [x] = some (out ++ [x]) := appO_eq (by simp only [List.length_cons, List.length_nil] at hl ⊢; omega) (by simp only [List.length_cons, List.length_nil] at hl ⊢; omega)
    show _ = (appO 56 out [x]).bind _
    rw [this]
    rfl
theorem rd_args : ∀ (fuel : Nat) (l : List T) (d : Int), formL l = true → l.length ≤ 6 → 0 ≤ d → d + depthL l ≤ 20 → depthL l < fuel → Rdr (lf_Psnapshot_reader_args_s1 fuel d) (encN l.length ++ bL l) l
  | 0, l, _, _, _, _, _, h => by omega
  | fuel + 1, l, d, hf, hl, hd0, hd, hfu => by
    have hel : ∀ t ∈ l, Rdr (lfo_Psnapshot_reader_args_1_s1 (lf_Psnapshot_reader_args_s1 fuel) d) (bT t) t := fun t ht => by
      have h1 := depthL_mem ht
      refine (rd_term1 t d hd0 (by omega) (formL_mem hf ht) fun k => ?_).congr fun c => (args_1 _ d c).symm
      have h2 := depth_2 k
      have h3 := form_2 (formL_mem hf ht) k
      rw [wr_eq (by omega)]
      exact rd_args fuel t.ar (d + 1) h3.2.2.2 h3.2.2.1 (by omega) (by omega) (by omega)
    have hrun := bL_run l [] hel (by simp only [List.length_nil]; omega)
    rw [List.nil_append] at hrun
    have hn := rd_num (lo := 0) (hi := 6) (n := (l.length : Int)) (by omega) (by omega) (encN l.length) (eNum_in (by omega) (by omega))
    refine (Rdr.bind hn (G := fun r => runT (lfo_Psnapshot_reader_args_1_s1 (lf_Psnapshot_reader_args_s1 fuel) d) 56 (r.1 - 0 : Int).toNat [] r.2) (hrun.congr fun c => ?_)).congr fun c => ?_
    · show _ = runT _ 56 ((l.length : Int) - 0).toNat [] c
      rw [Int.sub_zero, Int.toNat_natCast]
    · rw [lf_Psnapshot_reader_args_s1]
      unfold lfo_snapshot_take_s1
      simp only [loopT_s1, bindX_id]
theorem rdo {α : Type} {f : RR → Option (Int ⊕ (α × RR))} {e : List Int} {x : α} (h : Rdr f e x) : RdO f (some e) x := fun e' he => by
  obtain rfl := Option.some.inj he
  exact h
theorem rd_parts {fuel : Nat} (hfu : 21 ≤ fuel) {l : List T} (hl : l.length ≤ 6) (hr : rightL l = true) : RdO (lf_Psnapshot_reader_args_s1 fuel 0) (some (encN l.length ++ bL l)) l := by
  obtain ⟨h1, h2, h3⟩ := rightL_in hr
  exact rdo (rd_args fuel l 0 h1 hl (by omega) (by omega) (by omega))
theorem rd_term {fuel : Nat} (hfu : 21 ≤ fuel) (t : T) : RdO (lf_Psnapshot_reader_term_s1 fuel 0) (eT t) t := fun e he => by
  unfold eT at he
  split at he
  · rename_i hr
    obtain rfl := Option.some.inj he
    obtain ⟨r1, r2, r3⟩ := rightT_in hr
    refine rd_term1 (rec := lf_Psnapshot_reader_args_s1 fuel) t 0 (by omega) (by omega) r1 fun k => ?_
    have h2 := depth_2 k
    have h3 := form_2 r1 k
    rw [wr_eq (by omega)]
    exact rd_args fuel t.ar (0 + 1) h3.2.2.2 h3.2.2.1 (by omega) (by omega) (by omega)
  · cases he
theorem rd_atom {fuel : Nat} (hfu : 21 ≤ fuel) (a : At) : RdO (lf_Psnapshot_reader_atom_s1 fuel) (eAtom a) a := fun e he => by
  unfold eAtom at he
  split at he
  · rename_i hr
    obtain rfl := Option.some.inj he
    obtain ⟨r1, r2, r3⟩ := rightA_in hr
    unfold lf_Psnapshot_reader_atom_s1
    have h : RdO (fun c_0 => bindX (lf_Psnapshot_reader_text_s1 c_0) fun r_2 => bindX (lf_Psnapshot_reader_args_s1 fuel 0 r_2.2) fun r_3 => some (.inr ((⟨r_2.1, r_3.1⟩ : At), r_3.2))) (catO (eText a.n) (some (encN a.ts.length ++ bL a.ts))) a := by
      refine RdO.bind (rd_text a.n) ?_
      dsimp only
      exact RdO.last (rd_parts hfu r2 r3) fun c => rfl
    exact h _ (by rw [eText_in r1]; rfl)
  · cases he
theorem rd_goal {fuel : Nat} (hfu : 21 ≤ fuel) (g : Gl) : RdO (lf_Psnapshot_reader_goal_s1 fuel) (eGoal g) g := fun e he => by
  unfold eGoal at he
  split at he
  · rename_i hr
    obtain rfl := Option.some.inj he
    obtain ⟨r0, r0', r1, r2, r3⟩ := rightG_in hr
    unfold lf_Psnapshot_reader_goal_s1
    have h : RdO (fun c_0 => bindX (lf_Psnapshot_reader_number_s1 0 12 c_0) fun r_2 => bindX (lf_Psnapshot_reader_text_s1 r_2.2) fun r_3 => bindX (lf_Psnapshot_reader_args_s1 fuel 0 r_3.2) fun r_4 => some (.inr ((⟨r_2.1, r_3.1, r_4.1⟩ : Gl), r_4.2))) (catO (eNum 0 12 g.op) (catO (eText g.n) (some (encN g.ts.length ++ bL g.ts)))) g := by
      refine RdO.bind (rd_num (n := g.op) (by omega) (by omega)) ?_
      dsimp only
      refine RdO.bind (rd_text g.n) ?_
      dsimp only
      exact RdO.last (rd_parts hfu r2 r3) fun c => rfl
    exact h _ (by rw [eNum_in r0 r0', eText_in r1]; rfl)
  · cases he
theorem rd_frame {fuel : Nat} (hfu : 21 ≤ fuel) (x : S_api_Frame) : RdO (lf_Psnapshot_reader_frame_s1 fuel) (eFrame x) x := by
  unfold lf_Psnapshot_reader_frame_s1
  refine RdO.bind (rd_num (n := x.f1_ID) (by omega) (by omega)) ?_
  dsimp only
  refine RdO.bind (rd_num (n := x.f2_Occ) (by omega) (by omega)) ?_
  dsimp only
  by_cases h0 : x.f1_ID = 0
  · have h1 : (x.f1_ID == (0 : Int)) = true := by simpa using h0
    rw [if_pos h0]
    refine RdO.congr (.last (rd_goal hfu x.f0_Goal) (G := fun r_5 => some (.inr ((⟨r_5.1, x.f1_ID, x.f2_Occ⟩ : S_api_Frame), r_5.2))) fun c => rfl) fun c => ?_
    simp only [h1, cond_true]
  · have h1 : (x.f1_ID == (0 : Int)) = false := by simpa using h0
    rw [if_neg h0]
    intro e he
    split at he
    · rename_i h
      obtain rfl := Option.some.inj he
      refine Rdr.congr (Rdr.pure (x := x)) fun c => ?_
      simp only [h1, cond_false]
      obtain ⟨g, i, oc⟩ := x
      obtain ⟨op, n, ts⟩ := g
      obtain ⟨h2, h3, h4⟩ := h
      simp only at h2 h3 h4
      rw [h2, nil_of_list h3, h4]
    · cases he
theorem rd_item {fuel : Nat} (hfu : 21 ≤ fuel) (x : Int × At) : RdO (lf_Psnapshot_reader_item_s1 fuel) (eItem x) x := by
  unfold lf_Psnapshot_reader_item_s1
  refine RdO.bind (rd_num (n := x.1) (by omega) (by omega)) ?_
  dsimp only
  exact RdO.last (rd_atom hfu x.2) fun c => rfl
theorem rd_bind {fuel : Nat} (hfu : 21 ≤ fuel) (x : Int × T) : RdO (lf_snapshot_TakeConfig_1_1_s1 fuel) (eBind x) x := by
  unfold lf_snapshot_TakeConfig_1_1_s1
  refine RdO.bind (rd_num (n := x.1) (by omega) (by omega)) ?_
  dsimp only
  exact RdO.last (rd_term hfu x.2) fun c => rfl
theorem loopT_s6 (fuel : Nat) : ∀ (n : Nat) (out : List S_api_Frame) (c : RR), lf_snapshot_take_s6_L0 (fun o r => some (.inr (o, r))) fuel n out c = runT (lf_Psnapshot_reader_frame_s1 fuel) 64 n out c
  | 0, out, c => rfl
  | n + 1, out, c => by
    rw [lf_snapshot_take_s6_L0, runT]
    simp only [loopT_s6 fuel n]
theorem rd_take6 {fuel : Nat} (hfu : 21 ≤ fuel) (l : List S_api_Frame) {most : Int} (hm : most ≤ 10000000) : RdO (lf_snapshot_take_s6 fuel most) (eList most eFrame l) l := by
  refine (rd_take (one := lf_Psnapshot_reader_frame_s1 fuel) (sz := 64) (by omega) hm fun x _ => rd_frame hfu x).congr fun c => ?_
  unfold lf_snapshot_take_s6
  simp only [loopT_s6]
theorem loopT_s7 (fuel : Nat) : ∀ (n : Nat) (out : List (Int × At)) (c : RR), lf_snapshot_take_s7_L0 (fun o r => some (.inr (o, r))) fuel n out c = runT (lf_Psnapshot_reader_item_s1 fuel) 48 n out c
  | 0, out, c => rfl
  | n + 1, out, c => by
    rw [lf_snapshot_take_s7_L0, runT]
    simp only [loopT_s7 fuel n]
theorem rd_take7 {fuel : Nat} (hfu : 21 ≤ fuel) (l : List (Int × At)) {most : Int} (hm : most ≤ 10000000) : RdO (lf_snapshot_take_s7 fuel most) (eList most eItem l) l := by
  refine (rd_take (one := lf_Psnapshot_reader_item_s1 fuel) (sz := 48) (by omega) hm fun x _ => rd_item hfu x).congr fun c => ?_
  unfold lf_snapshot_take_s7
  simp only [loopT_s7]
theorem loopT_s8 (fuel : Nat) : ∀ (n : Nat) (out : List (Int × T)) (c : RR), lf_snapshot_take_s8_L0 (fun o r => some (.inr (o, r))) fuel n out c = runT (lf_snapshot_TakeConfig_1_1_s1 fuel) 64 n out c
  | 0, out, c => rfl
  | n + 1, out, c => by
    rw [lf_snapshot_take_s8_L0, runT]
    simp only [loopT_s8 fuel n]
theorem rd_take8 {fuel : Nat} (hfu : 21 ≤ fuel) (l : List (Int × T)) {most : Int} (hm : most ≤ 10000000) : RdO (lf_snapshot_take_s8 fuel most) (eList most eBind l) l := by
  refine (rd_take (one := lf_snapshot_TakeConfig_1_1_s1 fuel) (sz := 64) (by omega) hm fun x _ => rd_bind hfu x).congr fun c => ?_
  unfold lf_snapshot_take_s8
  simp only [loopT_s8]
theorem loopT_s10 (h : Int) : ∀ (n : Nat) (out : List Int) (c : RR), lf_snapshot_take_s10_L0 (fun o r => some (.inr (o, r))) h n out c = runT (lf_Psnapshot_reader_numbers_1_s1 h) 8 n out c
  | 0, out, c => rfl
  | n + 1, out, c => by
    rw [lf_snapshot_take_s10_L0, runT]
    simp only [loopT_s10 h n]
theorem rd_nums (l : List Int) {most hi : Int} (hm : most ≤ 10000000) (hh : hi < 9223372036854775808) : RdO (lf_Psnapshot_reader_numbers_s1 most hi) (eNums most hi l) l := by
  refine (rd_take (one := lf_Psnapshot_reader_numbers_1_s1 hi) (sz := 8) (by omega) hm (e := eNum 0 hi) fun x _ => (rd_num (n := x) (by omega) hh).congr fun c => ?_).congr fun c => ?_
  · unfold lf_Psnapshot_reader_numbers_1_s1
    rw [bindX_id]
  · unfold lf_Psnapshot_reader_numbers_s1 lf_snapshot_take_s10
    simp only [loopT_s10, bindX_id]
theorem rd_fire (x : S_api_Fire) : RdO lf_snapshot_TakeConfig_1_2_s1 (eFire x) x := by
  unfold lf_snapshot_TakeConfig_1_2_s1
  refine RdO.bind (rd_num (n := x.f0_Rule) (by omega) (by omega)) ?_
  dsimp only
  exact RdO.last (rd_nums x.f1_IDs (by omega) (by omega)) fun c => rfl
theorem loopT_s9 : ∀ (n : Nat) (out : List S_api_Fire) (c : RR), lf_snapshot_take_s9_L0 (fun o r => some (.inr (o, r))) n out c = runT (lf_snapshot_TakeConfig_1_2_s1) 32 n out c
  | 0, out, c => rfl
  | n + 1, out, c => by
    rw [lf_snapshot_take_s9_L0, runT]
    simp only [loopT_s9 n]
theorem rd_take9 (l : List S_api_Fire) {most : Int} (hm : most ≤ 10000000) : RdO (lf_snapshot_take_s9 most) (eList most eFire l) l := by
  refine (rd_take (one := lf_snapshot_TakeConfig_1_2_s1) (sz := 32) (by omega) hm fun x _ => rd_fire x).congr fun c => ?_
  unfold lf_snapshot_take_s9
  simp only [loopT_s9]
theorem rd_Config {fuel : Nat} (hfu : 21 ≤ fuel) (p : S_api_Config) : RdO (fun c => bindX (lf_Psnapshot_reader_number_s1 2 2 c) fun r => lf_snapshot_TakeConfig_1_s1 fuel r.2) (eConfig p) p := by
  refine RdO.bind (rd_num (n := 2) (by omega) (by omega)) (y := p) ?_
  dsimp only
  unfold lf_snapshot_TakeConfig_1_s1
  refine RdO.bind (rd_take6 hfu p.f0_Stack (by omega)) ?_
  dsimp only
  refine RdO.bind (rd_take7 hfu p.f1_Store (by omega)) ?_
  dsimp only
  refine RdO.bind (rd_take8 hfu p.f2_Binds (by omega)) ?_
  dsimp only
  refine RdO.bind (rd_take9 p.f3_Fired (by omega)) ?_
  dsimp only
  refine RdO.bind (rd_num (n := p.f4_Next) (by omega) (by omega)) ?_
  dsimp only
  refine RdO.bind (rd_num (n := p.f5_Fresh) (by omega) (by omega)) ?_
  dsimp only
  exact RdO.last (rd_flag p.f6_Failed) fun c => rfl
theorem catO_pos {lo hi n : Int} {s : Option (List Int)} {e : List Int} (h : catO (eNum lo hi n) s = some e) : e ≠ [] := by
  obtain ⟨a, b, h1, _, rfl⟩ := catO_some h
  unfold eNum at h1
  split at h1
  · rename_i hh
    obtain rfl := Option.some.inj h1
    intro h0
    have : encN n = [] := (List.append_eq_nil_iff.1 h0).1
    have h2 := congrArg List.length this
    unfold encN at h2
    rw [len_toY, List.length_take] at h2
    have := enc_pos (zig n)
    simp only [List.length_nil] at h2
    omega
  · cases h1
theorem whole_Config {fuel : Nat} (hfu : 21 ≤ fuel) {p : S_api_Config} {e : List Int} (he : eConfig p = some e) (hw : lf_snapshot_Config fuel p = some e) (hl : e.length ≤ 999999999) :
    lf_wholeR_Config fuel e 2 = some (p, 0) ∧ (∀ x, lf_wholeR_Config fuel (e ++ [x]) 2 = some (z_Config, 3)) ∧ ∀ t z, z ≠ [] → e = t ++ z → lf_wholeR_Config fuel t 2 = some (z_Config, 4) := by
  have hr := rd_Config hfu p e he
  have hne : e ≠ [] := catO_pos he
  have hpos : 0 < e.length := List.length_pos_iff.2 hne
  have key : ∀ b, lf_whole_Config fuel b 2 = bindX ((fun c => bindX (lf_Psnapshot_reader_number_s1 2 2 c) fun r => lf_snapshot_TakeConfig_1_s1 fuel r.2) ⟨b, 0⟩) fun r_5 => bif (decide (r_5.2.f1_at < (b.length : Int))) then some (.inl 3) else ((lf_snapshot_Config fuel r_5.1).bind fun r_8 => bif ((r_8.length : Int) == (0 : Int)) then some (.inl 2) else some (.inr (r_5.1, 0))) := fun b => by
    rw [bindX_assoc]
    rfl
  refine ⟨?_, fun x => ?_, fun t z hz ht => ?_⟩
  · have h := hr.1 [] [] (by simpa using (by omega : e.length ≤ 1000000000))
    simp only [List.nil_append, List.append_nil, List.length_nil] at h
    rw [lf_wholeR_Config, key]
    dsimp only
    rw [show ((0 : Nat) : Int) = 0 from rfl] at h
    rw [h, bindX_ok]
    have h1 : decide ((e.length : Int) < (e.length : Int)) = false := decide_eq_false (by omega)
    have h2 : ((e.length : Int) == 0) = false := by
      rw [beq_eq_false_iff_ne]
      omega
    simp only [h1, cond_false, hw, Option.bind_some, h2]
    rfl
  · have h := hr.1 [] [x] (by simp only [List.nil_append, List.length_append, List.length_singleton]; omega)
    simp only [List.nil_append, List.length_nil] at h
    rw [lf_wholeR_Config, key]
    dsimp only
    rw [show ((0 : Nat) : Int) = 0 from rfl] at h
    rw [h, bindX_ok]
    have h1 : decide ((e.length : Int) < ((e ++ [x]).length : Int)) = true := decide_eq_true (by simp only [List.length_append, List.length_singleton]; omega)
    simp only [h1, cond_true]
    rfl
  · have h := hr.2 [] t z (by
      have := congrArg List.length ht
      rw [List.length_append] at this
      simp only [List.nil_append]
      omega) hz ht
    simp only [List.nil_append, List.length_nil] at h
    rw [lf_wholeR_Config, key]
    dsimp only
    rw [show ((0 : Nat) : Int) = 0 from rfl] at h
    rw [h]
    rfl
theorem whole0_Config (fuel : Nat) : lf_wholeR_Config fuel [] 2 = some (z_Config, 4) := by
  have hx : x_cInt [] 0 2 2 = some (0, 0, 4) := by
    rw [x_cInt, if_pos (by simp)]
    rfl
  have h : lf_Psnapshot_reader_number_s1 2 2 ⟨[], 0⟩ = some (.inl 4) := by
    unfold lf_Psnapshot_reader_number_s1
    simp only [hx, Option.bind_some]
    rfl
  unfold lf_wholeR_Config lf_whole_Config
  rw [h]
  rfl
end Go.Proofs.YtdoljfkjdfaakaaGreat

