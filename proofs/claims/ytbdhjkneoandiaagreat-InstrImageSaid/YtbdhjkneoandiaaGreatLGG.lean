/-
  Texts of the seat, merged.
-/
import Derived.Test.YtbdhjkneoandiaaGreatLGA
import Derived.Test.YtbdhjkneoandiaaGreatLGB
import Derived.Test.YtbdhjkneoandiaaGreatLGC
import Derived.Test.YtbdhjkneoandiaaGreatLGD
import Derived.Test.YtbdhjkneoandiaaGreatLGE
import Derived.Test.YtbdhjkneoandiaaGreatLGF
import Derived.Test.YtbdhjkneoandiaaGreatChecked
import Derived.WalkKit
import Derived.Lib.Hide
import Derived.Lib.AppendStr
import Derived.Deep.AppendLies
import Derived.Deep.AppendSrc
import Derived.Deep.Draws
import Derived.Deep.QuietTactic
import Derived.BigQuiet
import Derived.Deep.RegionWith
import Derived.Maps.AppendAt
import Derived.WalkSpells
import Derived.Orders
import Derived.Deep.Slices
import Derived.Deep.Fields
import Derived.ChangeArms
import Derived.Lib.OthersKept
import Derived.Lib.TrimU
import Derived.Lib.IndexAny
import Derived.Deep.LoopGhost
import Derived.Lib.Bytealg
import Derived.RangeFuncBox
import Derived.RangeFuncNested
import Derived.RangeFuncBound
import Derived.RangeFuncCalls
import Derived.RangeFuncLeaves
import Derived.Shelf.Abstract
import Derived.OwnWalkIn
import Derived.TacticsInMore
import Derived.LoopNIn
import Derived.LoopIn
import Derived.RangeFuncWrites
import Derived.Maps.OwnIn
import Derived.Maps.Views
import Derived.Laws.OwnMore
import Derived.Maps.OwnSet
import Derived.Test.YtbdhjkneoandiaaGreatRows
import Derived.ProofKit
import Derived.OpenShut
import Derived.Carry
import Derived.OrdersIn
import Derived.Great.BuildSlice
import Derived.ArgAppend
import Derived.Laws.MakeOwn
import Derived.Laws.Cover3
import Derived.Laws.CopyRow
import Derived.MapKept
import Derived.Maps.RangeRun
import Derived.DeepKeys5
import Derived.WideKeyRuns
set_option linter.unusedVariables false
set_option linter.unusedSimpArgs false
set_option linter.unnecessarySimpa false
set_option linter.all false

namespace Go.Proofs.YtbdhjkneoandiaaGreat
set_option maxRecDepth 100000
open Go.RowKit

set_option maxRecDepth 100000 in
theorem live32 : lf_constraintlaw32_live = some true := by
  kernel_rfl

def TotP {α : Type} (x : Option α) (Q : α → Prop) : Prop := ∃ a, x = some a ∧ Q a
theorem TotP.pure {α : Type} {a : α} {Q : α → Prop} (h : Q a) : TotP (some a) Q := ⟨a, rfl, h⟩
theorem TotP.bind {α β : Type} {x : Option α} {R : α → Prop} {f : α → Option β} {Q : β → Prop} (h : TotP x R) (hf : ∀ a, R a → TotP (f a) Q) : TotP (x.bind f) Q := by
  obtain ⟨a, rfl, ha⟩ := h
  exact hf a ha
theorem TotP.cond {α : Type} {b : Bool} {x y : Option α} {Q : α → Prop} (h1 : b = true → TotP x Q) (h2 : b = false → TotP y Q) : TotP (bif b then x else y) Q := by
  cases b with
  | true => exact h1 rfl
  | false => exact h2 rfl
def Any {α : Type} : α → Prop := fun _ => True
/-! ### weights -/
def wA : List At → Nat
  | [] => 0
  | a :: l => 1 + wtL a.ts + wA l
def wG : List Gl → Nat
  | [] => 0
  | a :: l => 1 + wtL a.ts + wG l
def NmA (l : List At) : Prop := ∀ a ∈ l, a.n.size ≤ 9223372036854775807
def NmG (l : List Gl) : Prop := ∀ a ∈ l, a.n.size ≤ 9223372036854775807
theorem wr_step (m : Int) (s : Nat) (h1 : 0 ≤ m) (h2 : m ≤ 1000) (hs : s ≤ 9223372036854775807) : wr ((wr (m - 1)) - (wr (Int.tdiv (s : Int) 8))) = m - 1 - ((s / 8 : Nat) : Int) := by
  have e : Int.tdiv (s : Int) 8 = ((s / 8 : Nat) : Int) := by
    rw [Int.tdiv_eq_ediv_of_nonneg (by omega)]
    rfl
  rw [e, wr_eq (n := m - 1) (by omega), wr_eq (n := ((s / 8 : Nat) : Int)) (by omega), wr_eq (by omega)]
theorem x_weigh_eq (ts : List T) (m : Int) (h1 : -9223372036854775808 ≤ m) (h2 : m ≤ 1000) : x_weigh ts m 64 = some (weighF 64 ts m) := by
  rw [x_weigh, if_pos ⟨⟨h1, by omega⟩, by omega, by omega⟩]
  rfl
theorem gg_lf (k : Int → Option Bool) : ∀ (l : List Gl) (m : Int), m ≤ 1000 → NmG l → ∃ r, lf_constraintref03_GreatGoals_L0 k l m = k r ∧ (0 ≤ r → (wG l : Int) + r ≤ m)
  | [], m, _, _ => ⟨m, by rw [lf_constraintref03_GreatGoals_L0], fun _ => by simp [wG]⟩
  | a :: l, m, hm, hn => by
    rw [lf_constraintref03_GreatGoals_L0]
    by_cases h : m ≥ 0
    · have hs := hn a (List.mem_cons_self ..)
      rw [decide_eq_true h, cond_true, wr_step m _ h hm hs, x_weigh_eq _ _ (by omega) (by omega), Option.bind_some]
      have h1 := weighF_ge 64 a.ts (m - 1 - ((a.n.size / 8 : Nat) : Int))
      have h2 := weigh_wt 64 a.ts (m - 1 - ((a.n.size / 8 : Nat) : Int))
      obtain ⟨r, e1, e2⟩ := gg_lf k l (weighF 64 a.ts (m - 1 - ((a.n.size / 8 : Nat) : Int))) (by omega) fun x hx => hn x (List.mem_cons_of_mem _ hx)
      refine ⟨r, e1, fun hr => ?_⟩
      have := e2 hr
      simp only [wG]
      omega
    · rw [decide_eq_false h, cond_false]
      exact ⟨m, rfl, fun hr => absurd hr h⟩
theorem greatG_lf (l : List Gl) (m : Int) (hm : m ≤ 1000) (hn : NmG l) : TotP (lf_constraintref03_GreatGoals l m) fun b => b = false → (wG l : Int) ≤ m := by
  unfold lf_constraintref03_GreatGoals
  obtain ⟨r, e1, e2⟩ := gg_lf (fun m => some (decide (m < 0))) l m hm hn
  rw [e1]
  refine ⟨_, rfl, fun h => ?_⟩
  have := of_decide_eq_false h
  have := e2 (by omega)
  omega
/-- An instruction's parts are small. -/
structure Bi (i : S_api_Instr) : Prop where
  g : wtL i.f3_Goal.ts ≤ 1000
  t : wtL i.f4_Terms ≤ 1000
def Ni (i : S_api_Instr) : Prop := i.f3_Goal.n.size ≤ 9223372036854775807
theorem greatT_lf (l : List T) (m : Int) (h0 : 0 ≤ m) (hm : m ≤ 1000) : TotP (lf_constraintref03_Great l m) fun b => b = false → (wtL l : Int) ≤ m := by
  unfold lf_constraintref03_Great
  rw [x_weigh_eq _ _ (by omega) hm, Option.bind_some]
  refine ⟨_, rfl, fun h => ?_⟩
  have h1 := of_decide_eq_false h
  have := weigh_wt 64 l m (by omega)
  omega
theorem great32_L0 {Q : Bool → Prop} (k : Int → Option Bool) : ∀ (l : List S_api_Instr) (m : Int), m ≤ 1000 → (∀ i ∈ l, Ni i) → (∀ m', m' ≤ m → ∃ b, k m' = some b ∧ (b = false → 0 ≤ m')) → TotP (lf_constraintref32_Great_L0 k l m) fun b => b = false → ∀ i ∈ l, Bi i
  | [], m, _, _, hk => by
    rw [lf_constraintref32_Great_L0]
    obtain ⟨b, h, _⟩ := hk m (Int.le_refl _)
    exact ⟨b, h, fun _ i hi => by cases hi⟩
  | i :: l, m, hm, hn, hk => by
    rw [lf_constraintref32_Great_L0]
    refine .cond (fun h0 => ?_) (fun h0 => ?_)
    · have h0 := of_decide_eq_true h0
      refine .bind (greatG_lf [i.f3_Goal] m hm fun a ha => by rw [List.mem_singleton.1 ha]; exact hn i (List.mem_cons_self ..)) fun x hx => .cond (fun _ => .pure fun h => by cases h) fun h1 => ?_
      refine .bind (greatT_lf i.f4_Terms m h0 hm) fun y hy => .cond (fun _ => .pure fun h => by cases h) fun h2 => ?_
      have h3 := hx h1
      have h4 := hy h2
      simp only [wG] at h3
      have e1 := len_wtL i.f3_Goal.ts
      have e2 := len_wtL i.f4_Terms
      rw [wr_eq (n := m - (i.f3_Goal.ts.length : Int)) (by omega), wr_eq (by omega)]
      obtain ⟨b, g1, g2⟩ := great32_L0 (Q := Q) k l (m - (i.f3_Goal.ts.length : Int) - (i.f4_Terms.length : Int)) (by omega) (fun x hx => hn x (List.mem_cons_of_mem _ hx)) fun m' hm' => hk m' (by omega)
      exact ⟨b, g1, fun hb x hx => (List.mem_cons.1 hx).elim (fun e => e ▸ ⟨by omega, by omega⟩) (g2 hb x)⟩
    · have h0 := of_decide_eq_false h0
      obtain ⟨b, h, h2⟩ := hk m (Int.le_refl _)
      exact ⟨b, h, fun hb => absurd (h2 hb) (by omega)⟩
theorem great32_lf (l : List S_api_Instr) (m : Int) (hm : m ≤ 1000) (hn : ∀ i ∈ l, Ni i) : TotP (lf_constraintref32_Great l m) fun b => b = false → l.length ≤ 220 ∧ ∀ i ∈ l, Bi i := by
  unfold lf_constraintref32_Great
  refine .cond (fun _ => .pure fun h => by cases h) fun h1 => ?_
  have h1 := of_decide_eq_false h1
  obtain ⟨b, g1, g2⟩ := great32_L0 (Q := fun _ => True) (fun most_4 => some (decide (most_4 < 0))) l m hm hn fun m' _ => ⟨_, rfl, fun h => by have := of_decide_eq_false h; omega⟩
  exact ⟨b, g1, fun hb => ⟨by omega, g2 hb⟩⟩

/-! ### Right -/
theorem cf_L0 : ∀ (l : List T) (i : Nat), wtL l ≤ 1000 → ∃ r, lf_slices_IndexFunc_s7_L0 (some (-1)) l i = some r ∧ decide (r ≥ (0 : Int)) = !l.all rightT
  | [], i, _ => ⟨-1, by rw [lf_slices_IndexFunc_s7_L0], rfl⟩
  | t :: l, i, h => by
    simp only [wtL] at h
    rw [lf_slices_IndexFunc_s7_L0, lf_instr_Right_1, x_rightT_eq t (by omega), Option.bind_some, Option.bind_some]
    cases hr : rightT t with
    | false => exact ⟨(i : Int), rfl, by rw [decide_eq_true (by omega)]; simp [hr]⟩
    | true =>
      obtain ⟨r, h1, h2⟩ := cf_L0 l (i + 1) (by omega)
      exact ⟨r, h1, by rw [h2]; simp [hr]⟩
theorem cf_lf (l : List T) (h : wtL l ≤ 1000) : lf_slices_ContainsFunc_s5 l = some (!l.all rightT) := by
  obtain ⟨r, h1, h2⟩ := cf_L0 l 0 h
  rw [lf_slices_ContainsFunc_s5, lf_slices_IndexFunc_s7, h1, Option.bind_some, h2]
theorem terms_L0 (k : Option Bool) : ∀ (l : List T), wtL l ≤ 1000 → lf_constraintref32_terms_L0 k l = bif l.all rightT then k else some false
  | [], _ => by rw [lf_constraintref32_terms_L0]; rfl
  | t :: l, h => by
    simp only [wtL] at h
    rw [lf_constraintref32_terms_L0, x_rightT_eq t (by omega), Option.bind_some, terms_L0 k l (by omega)]
    cases hr : rightT t <;> simp [hr]
theorem terms_lf (l : List T) (h : wtL l ≤ 1000) (a b : Int) : lf_constraintref32_terms l a b = some (l.all rightT && (decide ((l.length : Int) ≥ a) && decide ((l.length : Int) ≤ b))) := by
  rw [lf_constraintref32_terms, terms_L0 _ l h]
  cases l.all rightT <;> cases decide ((l.length : Int) ≥ a) <;> rfl
theorem all_nil {l : List T} (h : l.length = 0) : l.all rightT = true := by
  rw [List.eq_nil_of_length_eq_zero h]; rfl
end Go.Proofs.YtbdhjkneoandiaaGreat


namespace Go.Proofs.YtbdhjkneoandiaaGreat
set_option maxRecDepth 100000
open Go.RowKit

theorem none_lf (g : Gl) : lf_instr_none g = some (g.op == (0 : Int) && (g.n.toList == (⟨#[]⟩ : ByteArray).toList && ((g.ts.length : Int) == (0 : Int)))) := by
  rw [lf_instr_none]
  cases g.op == (0 : Int) <;> cases g.n.toList == (⟨#[]⟩ : ByteArray).toList <;> rfl
theorem refNone_lf (g : Gl) : lf_constraintref32_none g = some (g.op == (0 : Int) && (g.n.toList == (⟨#[]⟩ : ByteArray).toList && ((g.ts.length : Int) == (0 : Int)))) := none_lf g
theorem guard_lf (g : Gl) (h : wtL g.ts ≤ 1000) : lf_instr_guard g = some (rightG g && (g.op == (1 : Int) || decide (g.op ≥ (5 : Int)))) := by
  rw [lf_instr_guard, x_rightG_eq g (by omega), Option.bind_some]
  cases rightG g <;> cases g.op == (1 : Int) <;> rfl
theorem refGuard_lf (g : Gl) (h : wtL g.ts ≤ 1000) : lf_constraintref32_guard g = some (rightG g && (g.op == (1 : Int) || decide (g.op ≥ (5 : Int)))) := guard_lf g h
theorem body_lf (g : Gl) (h : wtL g.ts ≤ 1000) : lf_instr_body g = some (rightG g && decide (g.op ≤ (4 : Int))) := by
  rw [lf_instr_body, x_rightG_eq g (by omega), Option.bind_some]
  cases rightG g <;> rfl
theorem refBody_lf (g : Gl) (h : wtL g.ts ≤ 1000) : lf_constraintref32_body g = some (rightG g && decide (g.op ≤ (4 : Int))) := by
  rw [lf_constraintref32_body, x_rightG_eq g (by omega), Option.bind_some]
  have : decide (g.op < (5 : Int)) = decide (g.op ≤ (4 : Int)) := decide_eq_decide.2 (by omega)
  cases rightG g <;> simp [this]
def inB (n lo hi : Int) : Bool := decide (n ≥ lo) && decide (n ≤ hi)
theorem two_lf (n lo hi : Int) : (bif decide (n ≥ lo) then some (decide (n ≤ hi)) else some false) = some (inB n lo hi) := by
  unfold inB
  cases decide (n ≥ lo) <;> rfl
theorem two_lt (n lo hi : Int) : (bif decide (n ≥ lo) then some (decide (n < hi)) else some false) = some (inB n lo (hi - 1)) := by
  rw [← two_lf]
  have : decide (n < hi) = decide (n ≤ hi - 1) := decide_eq_decide.2 (by omega)
  rw [this]
theorem register_lf (n : Int) : lf_instr_register n = some (inB n 0 3) := two_lt n 0 4
theorem refRegister_lf (n : Int) : lf_constraintref32_register n = some (inB n 0 3) := two_lt n 0 4
theorem rule_lf (n : Int) : lf_instr_rule n = some (inB n 0 39) := two_lt n 0 40
theorem refNumber_lf (n : Int) : lf_constraintref32_number n = some (inB n 0 39) := two_lt n 0 40
theorem heads_lf (n : Int) : lf_instr_heads n = some (inB n 1 4) := two_lf n 1 4
theorem position_lf (n : Int) : lf_instr_position n = some (inB n 0 5) := two_lt n 0 6
theorem vars_lf' (n : Int) : lf_instr_vars n = some (inB n 0 1048576) := two_lf n 0 1048576
/-- The instruction is right. -/
noncomputable def rI (i : S_api_Instr) : Bool :=
  let n := i.f4_Terms.length
  let none := i.f3_Goal.op == (0 : Int) && (i.f3_Goal.n.toList == (⟨#[]⟩ : ByteArray).toList && ((i.f3_Goal.ts.length : Int) == (0 : Int)))
  let gd := rightG i.f3_Goal && (i.f3_Goal.op == (1 : Int) || decide (i.f3_Goal.op ≥ (5 : Int)))
  let bd := rightG i.f3_Goal && decide (i.f3_Goal.op ≤ (4 : Int))
  let zz := i.f1_A == (0 : Int) && i.f2_B == (0 : Int)
  if i.f0_Op = 1 then inB i.f1_A 0 3 && inB i.f2_B 0 5 && none && decide (n = 1) && i.f4_Terms.all rightT
  else if i.f0_Op = 2 then zz && gd && decide (n = 0)
  else if i.f0_Op = 3 then inB i.f1_A 0 3 && decide (i.f2_B ≥ 0) && none && decide (n ≤ 6) && i.f4_Terms.all rightT
  else if i.f0_Op = 4 then inB i.f1_A 0 3 && inB i.f2_B 0 3 && none && decide (n = 0) && i.f1_A != i.f2_B
  else if i.f0_Op = 5 then inB i.f1_A 0 39 && inB i.f2_B 1 4 && none && decide (n = 0)
  else if i.f0_Op = 8 then inB i.f1_A 0 39 && inB i.f2_B 1 4 && none && decide (n = 0)
  else if i.f0_Op = 6 then inB i.f1_A 0 3 && i.f2_B == (0 : Int) && none && decide (n = 0)
  else if i.f0_Op = 7 then zz && none && decide (n = 0)
  else if i.f0_Op = 9 then zz && bd && decide (n = 0)
  else if i.f0_Op = 10 then inB i.f1_A 0 39 && inB i.f2_B 0 1048576 && none && decide (n = 0)
  else false
theorem cond_some {α : Type} (b : Bool) (x y : α) : (bif b then some x else some y) = some (bif b then x else y) := by cases b <;> rfl
theorem beq_f {a b : Int} (h : ¬ a = b) : (a == b) = false := by simpa using h
set_option maxHeartbeats 4000000 in
theorem right_lf {i : S_api_Instr} (h : Bi i) : lf_instr_Right i = some (rI i) := by
  have hall := all_nil (l := i.f4_Terms)
  rw [lf_instr_Right, lf_instr_of, rI]
  by_cases h1 : i.f0_Op = 1
  · simp only [h1, beq_self_eq_true, cond_true, if_true, Option.bind_some, register_lf, position_lf, none_lf, rule_lf, heads_lf, vars_lf', guard_lf _ h.g, body_lf _ h.g, lf_instr_zero, lf_instr_count, cf_lf _ h.t, cond_some, Option.some.injEq, show ∀ a b : Int, a ≠ b → (a == b) = false from fun _ _ h => by simpa using h, Int.reduceBEq, cond_false, Int.reduceEq, if_false, Bool.not_true, Int.reduceBNe]
    grind
  rw [beq_f h1, cond_false, if_neg h1]
  by_cases h2 : i.f0_Op = 2
  · simp only [h2, beq_self_eq_true, cond_true, if_true, Option.bind_some, register_lf, position_lf, none_lf, rule_lf, heads_lf, vars_lf', guard_lf _ h.g, body_lf _ h.g, lf_instr_zero, lf_instr_count, cf_lf _ h.t, cond_some, Option.some.injEq, show ∀ a b : Int, a ≠ b → (a == b) = false from fun _ _ h => by simpa using h, Int.reduceBEq, cond_false, Int.reduceEq, if_false, Bool.not_true, Int.reduceBNe]
    grind
  rw [beq_f h2, cond_false, if_neg h2]
  by_cases h3 : i.f0_Op = 3
  · simp only [h3, beq_self_eq_true, cond_true, if_true, Option.bind_some, register_lf, position_lf, none_lf, rule_lf, heads_lf, vars_lf', guard_lf _ h.g, body_lf _ h.g, lf_instr_zero, lf_instr_count, cf_lf _ h.t, cond_some, Option.some.injEq, show ∀ a b : Int, a ≠ b → (a == b) = false from fun _ _ h => by simpa using h, Int.reduceBEq, cond_false, Int.reduceEq, if_false, Bool.not_true, Int.reduceBNe]
    grind
  rw [beq_f h3, cond_false, if_neg h3]
  by_cases h4 : i.f0_Op = 4
  · simp only [h4, beq_self_eq_true, cond_true, if_true, Option.bind_some, register_lf, position_lf, none_lf, rule_lf, heads_lf, vars_lf', guard_lf _ h.g, body_lf _ h.g, lf_instr_zero, lf_instr_count, cf_lf _ h.t, cond_some, Option.some.injEq, show ∀ a b : Int, a ≠ b → (a == b) = false from fun _ _ h => by simpa using h, Int.reduceBEq, cond_false, Int.reduceEq, if_false, Bool.not_true, Int.reduceBNe]
    grind
  rw [beq_f h4, cond_false, if_neg h4]
  by_cases h5 : i.f0_Op = 5
  · simp only [h5, beq_self_eq_true, cond_true, if_true, Option.bind_some, register_lf, position_lf, none_lf, rule_lf, heads_lf, vars_lf', guard_lf _ h.g, body_lf _ h.g, lf_instr_zero, lf_instr_count, cf_lf _ h.t, cond_some, Option.some.injEq, show ∀ a b : Int, a ≠ b → (a == b) = false from fun _ _ h => by simpa using h, Int.reduceBEq, cond_false, Int.reduceEq, if_false, Bool.not_true, Int.reduceBNe]
    grind
  rw [beq_f h5, cond_false, if_neg h5]
  by_cases h8 : i.f0_Op = 8
  · simp only [h8, beq_self_eq_true, cond_true, if_true, Option.bind_some, register_lf, position_lf, none_lf, rule_lf, heads_lf, vars_lf', guard_lf _ h.g, body_lf _ h.g, lf_instr_zero, lf_instr_count, cf_lf _ h.t, cond_some, Option.some.injEq, show ∀ a b : Int, a ≠ b → (a == b) = false from fun _ _ h => by simpa using h, Int.reduceBEq, cond_false, Int.reduceEq, if_false, Bool.not_true, Int.reduceBNe]
    grind
  rw [beq_f h8, cond_false, if_neg h8]
  by_cases h6 : i.f0_Op = 6
  · simp only [h6, beq_self_eq_true, cond_true, if_true, Option.bind_some, register_lf, position_lf, none_lf, rule_lf, heads_lf, vars_lf', guard_lf _ h.g, body_lf _ h.g, lf_instr_zero, lf_instr_count, cf_lf _ h.t, cond_some, Option.some.injEq, show ∀ a b : Int, a ≠ b → (a == b) = false from fun _ _ h => by simpa using h, Int.reduceBEq, cond_false, Int.reduceEq, if_false, Bool.not_true, Int.reduceBNe]
    grind
  rw [beq_f h6, cond_false, if_neg h6]
  by_cases h7 : i.f0_Op = 7
  · simp only [h7, beq_self_eq_true, cond_true, if_true, Option.bind_some, register_lf, position_lf, none_lf, rule_lf, heads_lf, vars_lf', guard_lf _ h.g, body_lf _ h.g, lf_instr_zero, lf_instr_count, cf_lf _ h.t, cond_some, Option.some.injEq, show ∀ a b : Int, a ≠ b → (a == b) = false from fun _ _ h => by simpa using h, Int.reduceBEq, cond_false, Int.reduceEq, if_false, Bool.not_true, Int.reduceBNe]
    grind
  rw [beq_f h7, cond_false, if_neg h7]
  by_cases h9 : i.f0_Op = 9
  · simp only [h9, beq_self_eq_true, cond_true, if_true, Option.bind_some, register_lf, position_lf, none_lf, rule_lf, heads_lf, vars_lf', guard_lf _ h.g, body_lf _ h.g, lf_instr_zero, lf_instr_count, cf_lf _ h.t, cond_some, Option.some.injEq, show ∀ a b : Int, a ≠ b → (a == b) = false from fun _ _ h => by simpa using h, Int.reduceBEq, cond_false, Int.reduceEq, if_false, Bool.not_true, Int.reduceBNe]
    grind
  rw [beq_f h9, cond_false, if_neg h9]
  by_cases h10 : i.f0_Op = 10
  · simp only [h10, beq_self_eq_true, cond_true, if_true, Option.bind_some, register_lf, position_lf, none_lf, rule_lf, heads_lf, vars_lf', guard_lf _ h.g, body_lf _ h.g, lf_instr_zero, lf_instr_count, cf_lf _ h.t, cond_some, Option.some.injEq, show ∀ a b : Int, a ≠ b → (a == b) = false from fun _ _ h => by simpa using h, Int.reduceBEq, cond_false, Int.reduceEq, if_false, Bool.not_true, Int.reduceBNe]
    grind
  rw [beq_f h10, cond_false, if_neg h10]
  simp only [Option.bind_some, Bool.not_false, cond_true]
theorem refRight_tot {i : S_api_Instr} (h : Bi i) : lf_constraintref32_Right i = some (rI i) := by
  have hall := all_nil (l := i.f4_Terms)
  rw [lf_constraintref32_Right, rI]
  by_cases h1 : i.f0_Op = 1
  · simp only [h1, beq_self_eq_true, cond_true, if_true, Option.bind_some, refRegister_lf, refNone_lf, refNumber_lf, refGuard_lf _ h.g, refBody_lf _ h.g, terms_lf _ h.t, cond_some, Option.some.injEq, Int.reduceBEq, cond_false, Int.reduceEq, if_false]
    try unfold inB
    grind
  by_cases h2 : i.f0_Op = 2
  · simp only [h2, beq_self_eq_true, cond_true, if_true, Option.bind_some, refRegister_lf, refNone_lf, refNumber_lf, refGuard_lf _ h.g, refBody_lf _ h.g, terms_lf _ h.t, cond_some, Option.some.injEq, Int.reduceBEq, cond_false, Int.reduceEq, if_false]
    try unfold inB
    grind
  by_cases h3 : i.f0_Op = 3
  · simp only [h3, beq_self_eq_true, cond_true, if_true, Option.bind_some, refRegister_lf, refNone_lf, refNumber_lf, refGuard_lf _ h.g, refBody_lf _ h.g, terms_lf _ h.t, cond_some, Option.some.injEq, Int.reduceBEq, cond_false, Int.reduceEq, if_false]
    try unfold inB
    grind
  by_cases h4 : i.f0_Op = 4
  · simp only [h4, beq_self_eq_true, cond_true, if_true, Option.bind_some, refRegister_lf, refNone_lf, refNumber_lf, refGuard_lf _ h.g, refBody_lf _ h.g, terms_lf _ h.t, cond_some, Option.some.injEq, Int.reduceBEq, cond_false, Int.reduceEq, if_false]
    try unfold inB
    grind
  by_cases h5 : i.f0_Op = 5
  · simp only [h5, beq_self_eq_true, cond_true, if_true, Option.bind_some, refRegister_lf, refNone_lf, refNumber_lf, refGuard_lf _ h.g, refBody_lf _ h.g, terms_lf _ h.t, cond_some, Option.some.injEq, Int.reduceBEq, cond_false, Int.reduceEq, if_false]
    try unfold inB
    grind
  by_cases h8 : i.f0_Op = 8
  · simp only [h8, beq_self_eq_true, cond_true, if_true, Option.bind_some, refRegister_lf, refNone_lf, refNumber_lf, refGuard_lf _ h.g, refBody_lf _ h.g, terms_lf _ h.t, cond_some, Option.some.injEq, Int.reduceBEq, cond_false, Int.reduceEq, if_false]
    try unfold inB
    grind
  by_cases h6 : i.f0_Op = 6
  · simp only [h6, beq_self_eq_true, cond_true, if_true, Option.bind_some, refRegister_lf, refNone_lf, refNumber_lf, refGuard_lf _ h.g, refBody_lf _ h.g, terms_lf _ h.t, cond_some, Option.some.injEq, Int.reduceBEq, cond_false, Int.reduceEq, if_false]
    try unfold inB
    grind
  by_cases h7 : i.f0_Op = 7
  · simp only [h7, beq_self_eq_true, cond_true, if_true, Option.bind_some, refRegister_lf, refNone_lf, refNumber_lf, refGuard_lf _ h.g, refBody_lf _ h.g, terms_lf _ h.t, cond_some, Option.some.injEq, Int.reduceBEq, cond_false, Int.reduceEq, if_false]
    try unfold inB
    grind
  by_cases h9 : i.f0_Op = 9
  · simp only [h9, beq_self_eq_true, cond_true, if_true, Option.bind_some, refRegister_lf, refNone_lf, refNumber_lf, refGuard_lf _ h.g, refBody_lf _ h.g, terms_lf _ h.t, cond_some, Option.some.injEq, Int.reduceBEq, cond_false, Int.reduceEq, if_false]
    try unfold inB
    grind
  by_cases h10 : i.f0_Op = 10
  · simp only [h10, beq_self_eq_true, cond_true, if_true, Option.bind_some, refRegister_lf, refNone_lf, refNumber_lf, refGuard_lf _ h.g, refBody_lf _ h.g, terms_lf _ h.t, cond_some, Option.some.injEq, Int.reduceBEq, cond_false, Int.reduceEq, if_false]
    try unfold inB
    grind
  simp only [beq_f h1, beq_f h2, beq_f h3, beq_f h4, beq_f h5, beq_f h6, beq_f h7, beq_f h8, beq_f h9, beq_f h10, if_neg h1, if_neg h2, if_neg h3, if_neg h4, if_neg h5, if_neg h6, if_neg h7, if_neg h8, if_neg h9, if_neg h10, cond_false, Option.bind_some, refNone_lf, cond_some]
  grind
end Go.Proofs.YtbdhjkneoandiaaGreat


namespace Go.Proofs.YtbdhjkneoandiaaGreat
set_option maxRecDepth 100000
open Go.RowKit

theorem right32 (i : S_api_Instr) (hn : Ni i) : lf_constraintlaw32_InstrRight i = some true := by
  rw [lf_constraintlaw32_InstrRight, live32]
  obtain ⟨b, e1, e2⟩ := great32_lf [i] 400 (by omega) fun x hx => by rw [List.mem_singleton.1 hx]; exact hn
  rw [e1, Option.bind_some]
  cases b with
  | true => rfl
  | false =>
    have hB := (e2 rfl).2 i (by simp)
    rw [cond_false, right_lf hB, refRight_tot hB]
    simp

/-! ### lists, element by element -/
def eqW {α : Type} (f : α → α → Bool) : List α → List α → Bool
  | [], [] => true
  | x :: l, y :: m => f x y && eqW f l m
  | _, _ => false
theorem eqW_len {α : Type} {f : α → α → Bool} : ∀ {l m : List α}, l.length ≠ m.length → eqW f l m = false
  | [], [], h => absurd rfl h
  | [], _ :: _, _ => rfl
  | _ :: _, [], _ => rfl
  | x :: l, y :: m, h => by
    rw [eqW, eqW_len (by simpa using h), Bool.and_false]
theorem eqW_self {α : Type} {f : α → α → Bool} : ∀ (l : List α), (∀ x ∈ l, f x x = true) → eqW f l l = true
  | [], _ => rfl
  | x :: l, h => by rw [eqW, h x (List.mem_cons_self ..), eqW_self l fun y hy => h y (List.mem_cons_of_mem _ hy)]; rfl
theorem eqLoop {α : Type} (L : List α → Nat → Option Bool) (eqf : α → α → Bool) (k : Option Bool) (s2 : List α) (h0 : ∀ i, L [] i = k) : ∀ (l : List α) (i : Nat), (∀ (x : α) (l' : List α) (i : Nat) (y : α), x ∈ l → s2[i]? = some y → L (x :: l') i = bif eqf x y then L l' (i + 1) else some false) → l.length = (s2.drop i).length → L l i = bif eqW eqf l (s2.drop i) then k else some false
  | [], i, _, hl => by
    rw [h0, List.eq_nil_of_length_eq_zero hl.symm]
    rfl
  | x :: l, i, h1, hl => by
    simp only [List.length_cons, List.length_drop] at hl
    have hlt : i < s2.length := by omega
    rw [h1 x l i s2[i] (List.mem_cons_self ..) (List.getElem?_eq_getElem hlt), List.drop_eq_getElem_cons hlt, eqW]
    cases eqf x s2[i] with
    | false => rfl
    | true =>
      rw [cond_true, eqLoop L eqf k s2 h0 l (i + 1) (fun y l' j z hy => h1 y l' j z (List.mem_cons_of_mem _ hy)) (by simp; omega), Bool.true_and]
theorem ne_len {α : Type} (a b : List α) : ((a.length : Int) != (b.length : Int)) = !decide (a.length = b.length) := by
  by_cases h : a.length = b.length
  · simp [h]
  · rw [decide_eq_false h]
    simp only [bne_iff_ne, ne_eq, Bool.not_false]
    omega

/-! ### instructions -/
theorem orI_z (a b : Int) : (orI a b == 0) = (a == 0 && b == 0) := by
  unfold orI
  by_cases h : a = 0
  · simp [h]
  · simp [h]
theorem cmpL_eqW : ∀ {l m : List T}, l.length = m.length → eqW sameT l m = (cmpL l m == 0)
  | [], [], _ => by simp [eqW, cmpL]
  | [], _ :: _, h => by cases h
  | _ :: _, [], h => by cases h
  | x :: l, y :: m, h => by
    rw [eqW, cmpL_eqW (by simpa using h), cmpL_cons, orI_z]
    rfl
theorem lists_eqW (l m : List T) : (listsT l m == 0) = eqW sameT l m := by
  by_cases h : l.length = m.length
  · rw [listsT_same h, cmpL_eqW h]
  · rw [eqW_len h]
    unfold listsT
    rw [orI_z]
    have : (cmpI (l.length : Int) (m.length : Int) == 0) = false := by
      unfold cmpI
      split
      · rfl
      · split
        · rfl
        · exact absurd (by omega) h
    rw [this, Bool.and_false]
noncomputable def sI (x y : S_api_Instr) : Bool := x.f0_Op == y.f0_Op && (x.f1_A == y.f1_A && (x.f2_B == y.f2_B && (sameG x.f3_Goal y.f3_Goal && eqW sameT x.f4_Terms y.f4_Terms)))
theorem terms_eq (s2 : List T) (l : List T) (hw : wtL l ≤ 1000) : lf_slices_EqualFunc_s1 l s2 = some (eqW sameT l s2) := by
  rw [lf_slices_EqualFunc_s1, ne_len]
  by_cases h : l.length = s2.length
  · rw [decide_eq_true h, Bool.not_true, cond_false]
    rw [eqLoop (fun l i => lf_slices_EqualFunc_s1_L0 (some true) s2 l i) sameT (some true) s2 (fun i => by rw [lf_slices_EqualFunc_s1_L0]) l 0 (fun x l' i y hx hy => by
      have hxw := wt_mem hx
      rw [lf_slices_EqualFunc_s1_L0, getI_nat, hy, Option.bind_some, x_sameT_eq x y (by omega), Option.bind_some]
      cases sameT x y <;> rfl) (by simpa using h), List.drop_zero]
    cases eqW sameT l s2 <;> rfl
  · rw [decide_eq_false h, Bool.not_false, cond_true, eqW_len h]
theorem same_lf {x : S_api_Instr} (h : Bi x) (y : S_api_Instr) : lf_instr_Same x y = some (sI x y) := by
  have h1 := h.g
  have h2 := h.t
  rw [lf_instr_Same, x_sameG_eq _ _ (by omega), Option.bind_some, terms_eq _ _ h2, Option.bind_some, sI]
  cases x.f0_Op == y.f0_Op <;> cases x.f1_A == y.f1_A <;> cases x.f2_B == y.f2_B <;> cases sameG x.f3_Goal y.f3_Goal <;> rfl
theorem refSame_lf {x : S_api_Instr} (h : Bi x) (y : S_api_Instr) : lf_constraintref32_Same x y = some (sI x y) := by
  have h1 := h.g
  have h2 := h.t
  rw [lf_constraintref32_Same, x_sameG_eq _ _ (by omega), Option.bind_some, x_sameTs_eq _ _ (by omega), Option.bind_some, lists_eqW, sI]
  cases x.f0_Op == y.f0_Op <;> cases x.f1_A == y.f1_A <;> cases x.f2_B == y.f2_B <;> cases sameG x.f3_Goal y.f3_Goal <;> rfl
theorem sI_self (x : S_api_Instr) : sI x x = true := by
  unfold sI
  have h1 : sameG x.f3_Goal x.f3_Goal = true := by unfold sameG; rw [cmpL_self]; simp
  have h2 : eqW sameT x.f4_Terms x.f4_Terms = true := eqW_self _ fun t _ => by unfold sameT; rw [cmp_self]; rfl
  rw [h1, h2]
  simp

/-! ### blocks, units, accesses -/
def BiB (b : S_api_Block) : Prop := ∀ i ∈ b.f1_Code, Bi i
def BiU (u : S_api_Unit) : Prop := ∀ b ∈ u.f2_Blocks, BiB b
noncomputable def sB (x y : S_api_Block) : Bool := decide (x.f0_Occ = y.f0_Occ) && eqW sI x.f1_Code y.f1_Code
noncomputable def sU (x y : S_api_Unit) : Bool := x.f0_Name.toList == y.f0_Name.toList && (x.f1_Arity == y.f1_Arity && (x.f3_Never == y.f3_Never && (x.f4_Late == y.f4_Late && eqW sB x.f2_Blocks y.f2_Blocks)))
def sNum (x y : Int) : Bool := x == y
def sAc (x y : S_api_Access) : Bool := x.f0_Name.toList == y.f0_Name.toList && (x.f1_Arity == y.f1_Arity && eqW sNum x.f2_Positions y.f2_Positions)
theorem code_eq (s2 l : List S_api_Instr) (hw : ∀ i ∈ l, Bi i) : lf_slices_EqualFunc_s5 l s2 = some (eqW sI l s2) := by
  rw [lf_slices_EqualFunc_s5, ne_len]
  by_cases h : l.length = s2.length
  · rw [decide_eq_true h, Bool.not_true, cond_false]
    rw [eqLoop (fun l i => lf_slices_EqualFunc_s5_L0 (some true) s2 l i) sI (some true) s2 (fun i => by rw [lf_slices_EqualFunc_s5_L0]) l 0 (fun x l' i y hx hy => by
      rw [lf_slices_EqualFunc_s5_L0, getI_nat, hy, Option.bind_some, same_lf (hw x hx), Option.bind_some]
      cases sI x y <;> rfl) (by simpa using h), List.drop_zero]
    cases eqW sI l s2 <;> rfl
  · rw [decide_eq_false h, Bool.not_false, cond_true, eqW_len h]
theorem block_eq {x : S_api_Block} (h : BiB x) (y : S_api_Block) : lf_instr_SameImage_1 x y = some (sB x y) := by
  rw [lf_instr_SameImage_1, code_eq _ _ h, Option.bind_some, sB]
  cases decide (x.f0_Occ = y.f0_Occ) <;> rfl
theorem refBlock_eq {x : S_api_Block} (hw : BiB x) (y : S_api_Block) : lf_constraintref32_SameBlock x y = some (sB x y) := by
  rw [lf_constraintref32_SameBlock, ne_len, sB]
  cases decide (x.f0_Occ = y.f0_Occ) with
  | false => rfl
  | true =>
    rw [Bool.not_true, cond_false, Bool.true_and]
    by_cases h : x.f1_Code.length = y.f1_Code.length
    · rw [decide_eq_true h, Bool.not_true, cond_false]
      rw [eqLoop (fun l i => lf_constraintref32_SameBlock_L0 (some true) y l i) sI (some true) y.f1_Code (fun i => by rw [lf_constraintref32_SameBlock_L0]) x.f1_Code 0 (fun a l' i b ha hb => by
        have hlt := (List.getElem?_eq_some_iff.1 hb).1
        rw [lf_constraintref32_SameBlock_L0, decide_eq_true (by omega), cond_true, getI_nat, hb, Option.bind_some, refSame_lf (hw a ha), Option.bind_some]
        cases sI a b <;> rfl) (by simpa using h), List.drop_zero]
      cases eqW sI x.f1_Code y.f1_Code <;> rfl
    · rw [decide_eq_false h, Bool.not_false, cond_true, eqW_len h]
theorem blocks_eq (s2 l : List S_api_Block) (hw : ∀ b ∈ l, BiB b) : lf_slices_EqualFunc_s4 l s2 = some (eqW sB l s2) := by
  rw [lf_slices_EqualFunc_s4, ne_len]
  by_cases h : l.length = s2.length
  · rw [decide_eq_true h, Bool.not_true, cond_false]
    rw [eqLoop (fun l i => lf_slices_EqualFunc_s4_L0 (some true) s2 l i) sB (some true) s2 (fun i => by rw [lf_slices_EqualFunc_s4_L0]) l 0 (fun x l' i y hx hy => by
      rw [lf_slices_EqualFunc_s4_L0, getI_nat, hy, Option.bind_some, block_eq (hw x hx), Option.bind_some]
      cases sB x y <;> rfl) (by simpa using h), List.drop_zero]
    cases eqW sB l s2 <;> rfl
  · rw [decide_eq_false h, Bool.not_false, cond_true, eqW_len h]
theorem unit_eq {x : S_api_Unit} (h : BiU x) (y : S_api_Unit) : lf_instr_SameImage_2_s1 x y = some (sU x y) := by
  rw [lf_instr_SameImage_2_s1, blocks_eq _ _ h, Option.bind_some, sU]
  cases x.f0_Name.toList == y.f0_Name.toList <;> cases x.f1_Arity == y.f1_Arity <;> cases x.f3_Never == y.f3_Never <;> cases x.f4_Late == y.f4_Late <;> rfl
theorem units_eq (s2 l : List S_api_Unit) (hw : ∀ b ∈ l, BiU b) : lf_slices_EqualFunc_s3 l s2 = some (eqW sU l s2) := by
  rw [lf_slices_EqualFunc_s3, ne_len]
  by_cases h : l.length = s2.length
  · rw [decide_eq_true h, Bool.not_true, cond_false]
    rw [eqLoop (fun l i => lf_slices_EqualFunc_s3_L0 (some true) s2 l i) sU (some true) s2 (fun i => by rw [lf_slices_EqualFunc_s3_L0]) l 0 (fun x l' i y hx hy => by
      rw [lf_slices_EqualFunc_s3_L0, getI_nat, hy, Option.bind_some, unit_eq (hw x hx), Option.bind_some]
      cases sU x y <;> rfl) (by simpa using h), List.drop_zero]
    cases eqW sU l s2 <;> rfl
  · rw [decide_eq_false h, Bool.not_false, cond_true, eqW_len h]
theorem ints_eq (s2 l : List Int) : lf_slices_Equal_int_int l s2 = some (eqW sNum l s2) := by
  rw [lf_slices_Equal_int_int, ne_len]
  by_cases h : l.length = s2.length
  · rw [decide_eq_true h, Bool.not_true, cond_false]
    rw [eqLoop (fun l i => lf_slices_Equal_int_int_L0 (some true) s2 l i) sNum (some true) s2 (fun i => by rw [lf_slices_Equal_int_int_L0]) l 0 (fun x l' i y hx hy => by
      rw [lf_slices_Equal_int_int_L0, getI_nat, hy, Option.bind_some, sNum, bne]
      cases x == y <;> rfl) (by simpa using h), List.drop_zero]
    cases eqW sNum l s2 <;> rfl
  · rw [decide_eq_false h, Bool.not_false, cond_true, eqW_len h]
theorem refInts_eq (s2 l : List Int) : lf_constraintref03_SameInts l s2 = some (eqW sNum l s2) := by
  rw [lf_constraintref03_SameInts, ne_len]
  by_cases h : l.length = s2.length
  · rw [decide_eq_true h, Bool.not_true, cond_false]
    rw [eqLoop (fun l i => lf_constraintref03_SameInts_L0 (some true) s2 l i) sNum (some true) s2 (fun i => by rw [lf_constraintref03_SameInts_L0]) l 0 (fun x l' i y hx hy => by
      have hlt := (List.getElem?_eq_some_iff.1 hy).1
      rw [lf_constraintref03_SameInts_L0, decide_eq_true (by omega), cond_true, getI_nat, hy, Option.bind_some, sNum, bne]
      cases x == y <;> rfl) (by simpa using h), List.drop_zero]
    cases eqW sNum l s2 <;> rfl
  · rw [decide_eq_false h, Bool.not_false, cond_true, eqW_len h]
theorem acc_eq (x y : S_api_Access) : lf_instr_SameImage_3 x y = some (sAc x y) := by
  rw [lf_instr_SameImage_3, ints_eq, Option.bind_some, sAc]
  cases x.f0_Name.toList == y.f0_Name.toList <;> cases x.f1_Arity == y.f1_Arity <;> rfl
theorem accs_eq (s2 l : List S_api_Access) : lf_slices_EqualFunc_s2 l s2 = some (eqW sAc l s2) := by
  rw [lf_slices_EqualFunc_s2, ne_len]
  by_cases h : l.length = s2.length
  · rw [decide_eq_true h, Bool.not_true, cond_false]
    rw [eqLoop (fun l i => lf_slices_EqualFunc_s2_L0 (some true) s2 l i) sAc (some true) s2 (fun i => by rw [lf_slices_EqualFunc_s2_L0]) l 0 (fun x l' i y hx hy => by
      rw [lf_slices_EqualFunc_s2_L0, getI_nat, hy, Option.bind_some, acc_eq, Option.bind_some]
      cases sAc x y <;> rfl) (by simpa using h), List.drop_zero]
    cases eqW sAc l s2 <;> rfl
  · rw [decide_eq_false h, Bool.not_false, cond_true, eqW_len h]
/-- An image's code is small. -/
def BiM (m : S_api_Image) : Prop := ∀ u ∈ m.f0_Units, BiU u
noncomputable def sImg (a b : S_api_Image) : Bool := a.f2_Rules == b.f2_Rules && (eqW sAc a.f1_Access b.f1_Access && eqW sU a.f0_Units b.f0_Units)
theorem image_eq {a : S_api_Image} (h : BiM a) (b : S_api_Image) : lf_instr_SameImage a b = some (sImg a b) := by
  rw [lf_instr_SameImage, accs_eq, Option.bind_some, units_eq _ _ h, Option.bind_some, sImg]
  cases a.f2_Rules == b.f2_Rules <;> cases eqW sAc a.f1_Access b.f1_Access <;> rfl
theorem refL2_eq (k : Option Bool) (u : S_api_Unit) (l : List S_api_Block) (hw : ∀ b ∈ l, BiB b) (hl : l.length = u.f2_Blocks.length) : lf_constraintref32_SameImage_L2 k u l 0 = bif eqW sB l u.f2_Blocks then k else some false := by
  rw [eqLoop (fun l i => lf_constraintref32_SameImage_L2 k u l i) sB k u.f2_Blocks (fun i => by rw [lf_constraintref32_SameImage_L2]) l 0 (fun x l' i y hx hy => by
      rw [lf_constraintref32_SameImage_L2, getI_nat, hy, Option.bind_some, refBlock_eq (hw x hx), Option.bind_some]
      cases sB x y <;> rfl) (by simpa using hl), List.drop_zero]
theorem refL1_eq (b : S_api_Image) (l : List S_api_Unit) (hw : ∀ u ∈ l, BiU u) (hl : l.length = b.f0_Units.length) : lf_constraintref32_SameImage_L1 (some true) b l 0 = some (eqW sU l b.f0_Units) := by
  rw [eqLoop (fun l i => lf_constraintref32_SameImage_L1 (some true) b l i) sU (some true) b.f0_Units (fun i => by rw [lf_constraintref32_SameImage_L1]) l 0 (fun x l' i y hx hy => by
      rw [lf_constraintref32_SameImage_L1, getI_nat, hy, Option.bind_some, ne_len, sU]
      by_cases h : x.f2_Blocks.length = y.f2_Blocks.length
      · rw [decide_eq_true h, refL2_eq _ _ _ (hw x hx) h]
        simp only [bne]
        cases x.f0_Name.toList == y.f0_Name.toList <;> cases x.f1_Arity == y.f1_Arity <;> cases x.f3_Never == y.f3_Never <;> cases x.f4_Late == y.f4_Late <;> rfl
      · rw [decide_eq_false h, eqW_len h]
        simp only [bne]
        cases x.f0_Name.toList == y.f0_Name.toList <;> cases x.f1_Arity == y.f1_Arity <;> cases x.f3_Never == y.f3_Never <;> cases x.f4_Late == y.f4_Late <;> rfl) (by simpa using hl), List.drop_zero]
  cases eqW sU l b.f0_Units <;> rfl
theorem refL0_eq (k : Option Bool) (b : S_api_Image) (l : List S_api_Access) (hl : l.length = b.f1_Access.length) : lf_constraintref32_SameImage_L0 k b l 0 = bif eqW sAc l b.f1_Access then k else some false := by
  rw [eqLoop (fun l i => lf_constraintref32_SameImage_L0 k b l i) sAc k b.f1_Access (fun i => by rw [lf_constraintref32_SameImage_L0]) l 0 (fun x l' i y hx hy => by
      rw [lf_constraintref32_SameImage_L0, getI_nat, hy, Option.bind_some, refInts_eq, Option.bind_some, sAc]
      simp only [bne]
      cases x.f0_Name.toList == y.f0_Name.toList <;> cases x.f1_Arity == y.f1_Arity <;> cases eqW sNum x.f2_Positions y.f2_Positions <;> rfl) (by simpa using hl), List.drop_zero]
theorem refImage_eq {a : S_api_Image} (hw : BiM a) (b : S_api_Image) : lf_constraintref32_SameImage a b = some (sImg a b) := by
  rw [lf_constraintref32_SameImage, ne_len, ne_len, sImg]
  simp only [bne]
  by_cases h1 : a.f0_Units.length = b.f0_Units.length
  · by_cases h2 : a.f1_Access.length = b.f1_Access.length
    · rw [decide_eq_true h1, decide_eq_true h2, refL1_eq b _ hw h1, refL0_eq _ b _ h2]
      cases a.f2_Rules == b.f2_Rules <;> cases eqW sAc a.f1_Access b.f1_Access <;> rfl
    · rw [decide_eq_false h2, eqW_len h2]
      cases a.f2_Rules == b.f2_Rules <;> cases decide (a.f0_Units.length = b.f0_Units.length) <;> rfl
  · rw [decide_eq_false h1, eqW_len h1]
    cases a.f2_Rules == b.f2_Rules <;> simp
theorem sImg_self (a : S_api_Image) : sImg a a = true := by
  have h1 : eqW sAc a.f1_Access a.f1_Access = true := eqW_self _ fun x _ => by
    unfold sAc
    rw [eqW_self _ fun n _ => by simp [sNum]]
    simp
  have h2 : eqW sU a.f0_Units a.f0_Units = true := eqW_self _ fun x _ => by
    unfold sU
    rw [eqW_self _ fun b _ => by
      unfold sB
      rw [eqW_self _ fun i _ => sI_self i]
      simp]
    simp
  rw [sImg, h1, h2]
  simp

/-! ### images that are not great -/
def NiB (b : S_api_Block) : Prop := ∀ i ∈ b.f1_Code, Ni i
structure NiU (u : S_api_Unit) : Prop where
  n : u.f0_Name.size ≤ 9223372036854775807
  b : ∀ b ∈ u.f2_Blocks, NiB b
theorem gi_L2 (k : Int → Option Bool) (Q : Prop) (hk : ∀ m, 0 ≤ m → m ≤ 1000 → TotP (k m) fun b => b = false → Q) : ∀ (l : List S_api_Block) (m : Int), 0 ≤ m → m ≤ 1000 → (∀ b ∈ l, NiB b ∧ b.f1_Code.length ≤ 9223372036854775807) → TotP (lf_constraintref32_GreatImage_L2 k l m) fun b => b = false → (∀ x ∈ l, BiB x) ∧ Q
  | [], m, h0, hm, _ => by
    rw [lf_constraintref32_GreatImage_L2]
    obtain ⟨b, h, h2⟩ := hk m h0 hm
    exact ⟨b, h, fun hb => ⟨fun x hx => (by cases hx), h2 hb⟩⟩
  | x :: l, m, h0, hm, hn => by
    obtain ⟨hx, hxl⟩ := hn x (List.mem_cons_self ..)
    rw [lf_constraintref32_GreatImage_L2, wr_eq (n := m - 1) (by omega), wr_eq (n := m - 1 - (x.f1_Code.length : Int)) (by omega)]
    refine .cond (fun _ => .pure fun h => by cases h) fun h1 => ?_
    have h1 := of_decide_eq_false h1
    refine .bind (great32_lf x.f1_Code (m - 1 - (x.f1_Code.length : Int)) (by omega) hx) fun b hb => .cond (fun _ => .pure fun h => by cases h) fun h2 => ?_
    obtain ⟨c, g1, g2⟩ := gi_L2 k Q hk l (m - 1 - (x.f1_Code.length : Int)) (by omega) (by omega) fun y hy => hn y (List.mem_cons_of_mem _ hy)
    exact ⟨c, g1, fun hc => ⟨fun y hy => (List.mem_cons.1 hy).elim (fun e => e ▸ (hb h2).2) ((g2 hc).1 y), (g2 hc).2⟩⟩
theorem gi_L1 : ∀ (l : List S_api_Unit) (m : Int), 0 ≤ m → m ≤ 1000 → (∀ u ∈ l, NiU u ∧ ∀ b ∈ u.f2_Blocks, b.f1_Code.length ≤ 9223372036854775807) → TotP (lf_constraintref32_GreatImage_L1 (some false) l m) fun b => b = false → ∀ u ∈ l, BiU u ∧ u.f2_Blocks.length ≤ 170 ∧ u.f0_Name.size ≤ 200
  | [], m, _, _, _ => by rw [lf_constraintref32_GreatImage_L1]; exact ⟨_, rfl, fun _ u hu => by cases hu⟩
  | u :: l, m, h0, hm, hn => by
    obtain ⟨hu, hul⟩ := hn u (List.mem_cons_self ..)
    rw [lf_constraintref32_GreatImage_L1]
    refine .cond (fun _ => .pure fun h => by cases h) fun h1 => .cond (fun _ => .pure fun h => by cases h) fun h2 => ?_
    have h1 := of_decide_eq_false h1
    have h2 := of_decide_eq_false h2
    obtain ⟨b, g1, g2⟩ := gi_L2 (fun most_11 => lf_constraintref32_GreatImage_L1 (some false) l most_11) (∀ u ∈ l, BiU u ∧ u.f2_Blocks.length ≤ 170 ∧ u.f0_Name.size ≤ 200) (fun m h0 hm => gi_L1 l m h0 hm fun y hy => hn y (List.mem_cons_of_mem _ hy)) u.f2_Blocks m h0 hm fun b hb => ⟨hu.b b hb, hul b hb⟩
    exact ⟨b, g1, fun hb x hx => (List.mem_cons.1 hx).elim (fun e => e ▸ ⟨(g2 hb).1, by omega, by omega⟩) ((g2 hb).2 x)⟩
theorem gi_L0 (k : Option Bool) (Q : Prop) (hk : TotP k fun b => b = false → Q) : ∀ l : List S_api_Access, TotP (lf_constraintref32_GreatImage_L0 k l) fun b => b = false → (∀ x ∈ l, x.f2_Positions.length ≤ 20 ∧ x.f0_Name.size ≤ 200) ∧ Q
  | [] => by
    rw [lf_constraintref32_GreatImage_L0]
    obtain ⟨b, h, h2⟩ := hk
    exact ⟨b, h, fun hb => ⟨fun x hx => (by cases hx), h2 hb⟩⟩
  | x :: l => by
    rw [lf_constraintref32_GreatImage_L0]
    refine .cond (fun _ => .pure fun h => by cases h) fun h1 => .cond (fun _ => .pure fun h => by cases h) fun h2 => ?_
    have h1 := of_decide_eq_false h1
    have h2 := of_decide_eq_false h2
    obtain ⟨b, g1, g2⟩ := gi_L0 k Q hk l
    exact ⟨b, g1, fun hb => ⟨fun y hy => (List.mem_cons.1 hy).elim (fun e => e ▸ ⟨by omega, by omega⟩) ((g2 hb).1 y), (g2 hb).2⟩⟩
/-- What is known of an image that comes in. -/
def NiM (m : S_api_Image) : Prop := ∀ u ∈ m.f0_Units, NiU u ∧ ∀ b ∈ u.f2_Blocks, b.f1_Code.length ≤ 9223372036854775807
structure BM (m : S_api_Image) : Prop where
  u : m.f0_Units.length ≤ 40
  a : m.f1_Access.length ≤ 500
  us : ∀ u ∈ m.f0_Units, BiU u ∧ u.f2_Blocks.length ≤ 170 ∧ u.f0_Name.size ≤ 200
  acc : ∀ x ∈ m.f1_Access, x.f2_Positions.length ≤ 20 ∧ x.f0_Name.size ≤ 200
theorem BM.m {m : S_api_Image} (h : BM m) : BiM m := fun u hu => (h.us u hu).1
theorem greatM_lf (m : S_api_Image) (n : Int) (h0 : 0 ≤ n) (hn : n ≤ 1000) (hi : NiM m) : TotP (lf_constraintref32_GreatImage m n) fun b => b = false → BM m := by
  unfold lf_constraintref32_GreatImage
  refine .cond (fun _ => .pure fun h => by cases h) fun h1 => .cond (fun _ => .pure fun h => by cases h) fun h2 => ?_
  have h1 := of_decide_eq_false h1
  have h2 := of_decide_eq_false h2
  obtain ⟨b, g1, g2⟩ := gi_L0 _ _ (gi_L1 m.f0_Units n h0 hn hi) m.f1_Access
  exact ⟨b, g1, fun hb => ⟨by omega, by omega, (g2 hb).2, (g2 hb).1⟩⟩

/-! ### InstrSame -/
theorem sameL2 (k : Option Bool) (b : S_api_Block) : ∀ (l : List S_api_Instr) (j : Nat), (∀ i ∈ l, Bi i) → lf_constraintlaw32_InstrSame_L2 k b l j = k
  | [], j, _ => by rw [lf_constraintlaw32_InstrSame_L2]
  | x :: l, j, h => by
    rw [lf_constraintlaw32_InstrSame_L2]
    by_cases hj : j < b.f1_Code.length
    · rw [decide_eq_true (by omega), cond_true, getI_nat, List.getElem?_eq_getElem hj, Option.bind_some, same_lf (h x (List.mem_cons_self ..)), Option.bind_some, refSame_lf (h x (List.mem_cons_self ..)), Option.bind_some, sameL2 k b l _ fun y hy => h y (List.mem_cons_of_mem _ hy)]
      simp
    · rw [decide_eq_false (by omega), cond_false]
theorem sameL1 (k : Option Bool) (b : S_api_Image) (i : Nat) (hi : i < b.f0_Units.length) : ∀ (l : List S_api_Block) (j : Nat), (∀ x ∈ l, BiB x) → lf_constraintlaw32_InstrSame_L1 k b i l j = k
  | [], j, _ => by rw [lf_constraintlaw32_InstrSame_L1]
  | x :: l, j, h => by
    rw [lf_constraintlaw32_InstrSame_L1, getI_nat, List.getElem?_eq_getElem hi, Option.bind_some]
    by_cases hj : j < b.f0_Units[i].f2_Blocks.length
    · rw [decide_eq_true (by omega), cond_true, getI_nat, List.getElem?_eq_getElem hj, Option.bind_some, sameL2 _ _ _ _ (h x (List.mem_cons_self ..)), sameL1 k b i hi l _ fun y hy => h y (List.mem_cons_of_mem _ hy)]
    · rw [decide_eq_false (by omega), cond_false]
theorem sameL0 (k : Option Bool) (b : S_api_Image) : ∀ (l : List S_api_Unit) (i : Nat), (∀ x ∈ l, BiU x) → lf_constraintlaw32_InstrSame_L0 k b l i = k
  | [], i, _ => by rw [lf_constraintlaw32_InstrSame_L0]
  | x :: l, i, h => by
    rw [lf_constraintlaw32_InstrSame_L0]
    by_cases hi : i < b.f0_Units.length
    · rw [decide_eq_true (by omega), cond_true, sameL1 _ _ _ hi _ _ (h x (List.mem_cons_self ..)), sameL0 k b l _ fun y hy => h y (List.mem_cons_of_mem _ hy)]
    · rw [decide_eq_false (by omega), cond_false]
theorem same32 (a b : S_api_Image) (ha : NiM a) (hb : NiM b) : lf_constraintlaw32_InstrSame a b = some true := by
  rw [lf_constraintlaw32_InstrSame, live32]
  obtain ⟨x, e1, e2⟩ := greatM_lf a 300 (by omega) (by omega) ha
  obtain ⟨y, f1, f2⟩ := greatM_lf b 300 (by omega) (by omega) hb
  rw [e1, Option.bind_some]
  cases x with
  | true => rfl
  | false =>
    rw [cond_false, f1, Option.bind_some]
    cases y with
    | true => rfl
    | false =>
      have hA := (e2 rfl).m
      rw [cond_false, image_eq hA, Option.bind_some, refImage_eq hA, Option.bind_some, image_eq hA, Option.bind_some, sImg_self, sameL0 _ _ _ _ hA]
      simp
end Go.Proofs.YtbdhjkneoandiaaGreat


namespace Go.Proofs.YtbdhjkneoandiaaGreat
set_option maxRecDepth 100000
open Go.RowKit

/-- What is known between two instructions. -/
structure Fs where
  rm : Bool
  kp : Bool
  sg : Int
  la : Int
  b0 : Bool
  b1 : Bool
  b2 : Bool
  b3 : Bool
  fr : List (Int × Bool)
def wantI (op : Int) : Int := if op = 6 then 1 else if op = 7 then 2 else if op = 8 then 3 else if op = 9 then 4 else if op = 10 then 5 else 0
def sgOk (w s : Int) : Bool := !decide (w < s) && !(w == s && (w == 2 || (w == 3 || w == 5)))
def gB (s : Fs) (n : Int) : Bool := if n = 0 then s.b0 else if n = 1 then s.b1 else if n = 2 then s.b2 else if n = 3 then s.b3 else false
def fstB (s : Fs) (n : Int) : Bool := (!decide (0 < n) || s.b0) && ((!decide (1 < n) || s.b1) && ((!decide (2 < n) || s.b2) && (!decide (3 < n) || s.b3)))
def opOk (b : S_api_Block) (s : Fs) (x : S_api_Instr) : Bool :=
  if x.f0_Op = 6 then gB s x.f1_A && !decide (x.f1_A ≤ s.la)
  else if x.f0_Op = 8 then fstB s x.f2_B && ((mget s.fr x.f2_B).getD false && x.f1_A == b.f0_Occ.f0_Rule)
  else if x.f0_Op = 10 then x.f1_A == b.f0_Occ.f0_Rule
  else if x.f0_Op = 1 then gB s x.f1_A
  else if x.f0_Op = 4 then gB s x.f1_A && gB s x.f2_B
  else if x.f0_Op = 3 then !gB s x.f1_A
  else if x.f0_Op = 5 then fstB s x.f2_B && x.f1_A == b.f0_Occ.f0_Rule
  else true
def nxt (b : S_api_Block) (s : Fs) (x : S_api_Instr) : Fs where
  rm := if x.f0_Op = 6 then s.rm || x.f1_A == b.f0_Occ.f1_Head else s.rm
  kp := if x.f0_Op = 7 then true else s.kp
  sg := wantI x.f0_Op
  la := if x.f0_Op = 6 then x.f1_A else s.la
  b0 := if x.f0_Op = 3 then (bif x.f1_A == 0 then true else s.b0) else s.b0
  b1 := if x.f0_Op = 3 then (bif x.f1_A == 1 then true else s.b1) else s.b1
  b2 := if x.f0_Op = 3 then (bif x.f1_A == 2 then true else s.b2) else s.b2
  b3 := if x.f0_Op = 3 then (bif x.f1_A == 3 then true else s.b3) else s.b3
  fr := if x.f0_Op = 5 then mput s.fr x.f2_B true else s.fr
theorem inB_iff {n lo hi : Int} : inB n lo hi = true ↔ lo ≤ n ∧ n ≤ hi := by unfold inB; simp
/-- The ranges of a right instruction's fields. -/
structure Rg (x : S_api_Instr) : Prop where
  a : x.f0_Op = 1 ∨ x.f0_Op = 3 ∨ x.f0_Op = 4 ∨ x.f0_Op = 6 → 0 ≤ x.f1_A ∧ x.f1_A ≤ 3
  b : x.f0_Op = 4 → 0 ≤ x.f2_B ∧ x.f2_B ≤ 3
  c : x.f0_Op = 5 ∨ x.f0_Op = 8 → 1 ≤ x.f2_B ∧ x.f2_B ≤ 4
  o : 1 ≤ x.f0_Op ∧ x.f0_Op ≤ 10
theorem rg_of {x : S_api_Instr} (h : rI x = true) : Rg x := by
  unfold rI at h
  refine ⟨fun h1 => ?_, fun h1 => ?_, fun h1 => ?_, ?_⟩
  · rcases h1 with h1 | h1 | h1 | h1 <;> simp only [h1, Int.reduceEq, if_true, if_false, Bool.and_eq_true, inB_iff] at h <;> grind
  · simp only [h1, Int.reduceEq, if_true, if_false, Bool.and_eq_true, inB_iff] at h; grind
  · rcases h1 with h1 | h1 <;> simp only [h1, Int.reduceEq, if_true, if_false, Bool.and_eq_true, inB_iff] at h <;> grind
  · refine Classical.byContradiction fun hc => ?_
    simp only [] at h
    rw [if_neg (by omega), if_neg (by omega), if_neg (by omega), if_neg (by omega), if_neg (by omega), if_neg (by omega), if_neg (by omega), if_neg (by omega), if_neg (by omega), if_neg (by omega)] at h
    cases h
theorem getB {s : Fs} {n : Int} (h : 0 ≤ n ∧ n ≤ 3) : getI [s.b0, s.b1, s.b2, s.b3] n = some (gB s n) := by
  have : n = 0 ∨ n = 1 ∨ n = 2 ∨ n = 3 := by omega
  rcases this with rfl | rfl | rfl | rfl <;> rfl
theorem first_lf (s : Fs) (n : Int) (h : 0 ≤ n ∧ n ≤ 4) : lf_Pinstr_set_first_s1 n s.b0 s.b1 s.b2 s.b3 = some (fstB s n, s.b0, s.b1, s.b2, s.b3) := by
  have : n = 0 ∨ n = 1 ∨ n = 2 ∨ n = 3 ∨ n = 4 := by omega
  obtain ⟨rm, kp, sg, la, b0, b1, b2, b3, fr⟩ := s
  rcases this with rfl | rfl | rfl | rfl | rfl <;> cases b0 <;> cases b1 <;> cases b2 <;> cases b3 <;> rfl
noncomputable def fL (k : Bool → Bool → Int → Option Bool) (b : S_api_Block) (l : List S_api_Instr) (s : Fs) : Option Bool := lf_instr_formed_L0 k b l s.rm s.kp s.sg s.la s.b0 s.b1 s.b2 s.b3 s.fr
theorem formed_step (k : Bool → Bool → Int → Option Bool) (b : S_api_Block) (x : S_api_Instr) (l : List S_api_Instr) (s : Fs) (h : Rg x) (hf : s.fr.length ≤ 1000000) : fL k b (x :: l) s = bif opOk b s x && sgOk (wantI x.f0_Op) s.sg then fL k b l (nxt b s x) else some false := by
  unfold fL
  rw [lf_instr_formed_L0]
  by_cases h6 : x.f0_Op = 6
  · have hA := h.a (by omega)
    simp only [h6, nxt, opOk, wantI, sgOk, getB hA, Option.bind_some, beq_self_eq_true, cond_true, if_true, Int.reduceEq, if_false]
    cases gB s x.f1_A <;> cases decide (x.f1_A ≤ s.la) <;> cases s.rm <;> cases decide (1 < s.sg) <;> cases (1 : Int) == s.sg <;> rfl
  by_cases h7 : x.f0_Op = 7
  · clear h6
    simp only [h7, nxt, opOk, wantI, sgOk, Option.bind_some, beq_self_eq_true, cond_true, if_true, Int.reduceEq, if_false, Int.reduceBEq, cond_false]
    cases decide ((2 : Int) < s.sg) <;> cases (2 : Int) == s.sg <;> rfl
  by_cases h8 : x.f0_Op = 8
  · clear h6
    have hC := h.c (by omega)
    simp only [h8, nxt, opOk, wantI, sgOk, Option.bind_some, beq_self_eq_true, cond_true, if_true, Int.reduceEq, if_false, Int.reduceBEq, cond_false, first_lf s x.f2_B (by omega), bne]
    cases fstB s x.f2_B <;> cases (mget s.fr x.f2_B).getD false <;> cases x.f1_A == b.f0_Occ.f0_Rule <;> cases decide ((3 : Int) < s.sg) <;> cases (3 : Int) == s.sg <;> rfl
  by_cases h9 : x.f0_Op = 9
  · clear h6
    simp only [h9, nxt, opOk, wantI, sgOk, Option.bind_some, beq_self_eq_true, cond_true, if_true, Int.reduceEq, if_false, Int.reduceBEq, cond_false]
    cases decide ((4 : Int) < s.sg) <;> cases (4 : Int) == s.sg <;> rfl
  by_cases h10 : x.f0_Op = 10
  · clear h6
    simp only [h10, nxt, opOk, wantI, sgOk, Option.bind_some, beq_self_eq_true, cond_true, if_true, Int.reduceEq, if_false, Int.reduceBEq, cond_false, bne]
    cases x.f1_A == b.f0_Occ.f0_Rule <;> cases decide ((5 : Int) < s.sg) <;> cases (5 : Int) == s.sg <;> rfl
  by_cases h1 : x.f0_Op = 1
  · clear h6
    have hA := h.a (by omega)
    simp only [h1, nxt, opOk, wantI, sgOk, Option.bind_some, beq_self_eq_true, cond_true, if_true, Int.reduceEq, if_false, Int.reduceBEq, cond_false, getB hA]
    cases gB s x.f1_A <;> cases decide ((0 : Int) < s.sg) <;> cases (0 : Int) == s.sg <;> rfl
  by_cases h4 : x.f0_Op = 4
  · clear h6
    have hA := h.a (by omega)
    have hB := h.b (by omega)
    simp only [h4, nxt, opOk, wantI, sgOk, Option.bind_some, beq_self_eq_true, cond_true, if_true, Int.reduceEq, if_false, Int.reduceBEq, cond_false, getB hA, getB hB]
    cases gB s x.f1_A <;> cases gB s x.f2_B <;> cases decide ((0 : Int) < s.sg) <;> cases (0 : Int) == s.sg <;> rfl
  by_cases h3 : x.f0_Op = 3
  · clear h6
    have hA := h.a (by omega)
    simp only [h3, nxt, opOk, wantI, sgOk, Option.bind_some, beq_self_eq_true, cond_true, if_true, Int.reduceEq, if_false, Int.reduceBEq, cond_false, getB hA]
    cases gB s x.f1_A <;> cases decide ((0 : Int) < s.sg) <;> cases (0 : Int) == s.sg <;> rfl
  by_cases h5 : x.f0_Op = 5
  · clear h6
    have hC := h.c (by omega)
    simp only [h5, nxt, opOk, wantI, sgOk, Option.bind_some, beq_self_eq_true, cond_true, if_true, Int.reduceEq, if_false, Int.reduceBEq, cond_false, first_lf s x.f2_B (by omega), bne, show mputO s.fr x.f2_B true = some (mput s.fr x.f2_B true) from if_pos (by omega)]
    cases fstB s x.f2_B <;> cases x.f1_A == b.f0_Occ.f0_Rule <;> cases decide ((0 : Int) < s.sg) <;> cases (0 : Int) == s.sg <;> rfl
  have h2 : x.f0_Op = 2 := by have := h.o; omega
  simp only [h2, nxt, opOk, wantI, sgOk, Option.bind_some, beq_self_eq_true, cond_true, if_true, Int.reduceEq, if_false, Int.reduceBEq, cond_false]
  cases decide ((0 : Int) < s.sg) <;> cases (0 : Int) == s.sg <;> rfl
end Go.Proofs.YtbdhjkneoandiaaGreat


namespace Go.Proofs.YtbdhjkneoandiaaGreat
set_option maxRecDepth 100000
open Go.RowKit

def chain (b : S_api_Block) : Fs → List S_api_Instr → Option Fs
  | s, [] => some s
  | s, x :: l => if (opOk b s x && sgOk (wantI x.f0_Op) s.sg) = true then chain b (nxt b s x) l else none
theorem nxt_fr (b : S_api_Block) (s : Fs) (x : S_api_Instr) : (nxt b s x).fr.length ≤ s.fr.length + 1 := by
  have := mput_len s.fr x.f2_B true
  simp only [nxt]
  split <;> omega
theorem formed_chain (k : Bool → Bool → Int → Option Bool) (b : S_api_Block) : ∀ (l : List S_api_Instr) (s : Fs), (∀ x ∈ l, Rg x) → s.fr.length + l.length ≤ 1000000 → fL k b l s = (match chain b s l with
    | some s' => k s'.rm s'.kp s'.sg
    | none => some false)
  | [], s, _, _ => by unfold fL; rw [lf_instr_formed_L0, chain]
  | x :: l, s, h, hl => by
    simp only [List.length_cons] at hl
    have := nxt_fr b s x
    rw [formed_step k b x l s (h x (List.mem_cons_self ..)) (by omega), chain]
    cases hc : opOk b s x && sgOk (wantI x.f0_Op) s.sg with
    | false => simp
    | true =>
      rw [cond_true, if_pos rfl]
      exact formed_chain k b l _ (fun y hy => h y (List.mem_cons_of_mem _ hy)) (by omega)
def s0 (b : S_api_Block) : Fs where
  rm := false
  kp := false
  sg := 0
  la := -1
  b0 := bif b.f0_Occ.f1_Head == 0 then true else false
  b1 := bif b.f0_Occ.f1_Head == 1 then true else false
  b2 := bif b.f0_Occ.f1_Head == 2 then true else false
  b3 := bif b.f0_Occ.f1_Head == 3 then true else false
  fr := []
def finOk (b : S_api_Block) (s : Fs) : Bool := s.sg == 5 && (s.rm != b.f0_Occ.f2_Kept && (!s.kp || b.f0_Occ.f2_Kept))
def formedF (b : S_api_Block) : Bool := match chain b (s0 b) b.f1_Code with
  | some s => finOk b s
  | none => false
theorem formed_lf (b : S_api_Block) (hh : 0 ≤ b.f0_Occ.f1_Head ∧ b.f0_Occ.f1_Head ≤ 3) (hr : ∀ x ∈ b.f1_Code, Rg x) (hl : b.f1_Code.length ≤ 1000) : lf_instr_formed b = some (formedF b) := by
  rw [lf_instr_formed, show getI [false, false, false, false] b.f0_Occ.f1_Head = some false by
    have : b.f0_Occ.f1_Head = 0 ∨ b.f0_Occ.f1_Head = 1 ∨ b.f0_Occ.f1_Head = 2 ∨ b.f0_Occ.f1_Head = 3 := by omega
    rcases this with h | h | h | h <;> rw [h] <;> rfl, Option.bind_some]
  have := formed_chain (fun removed_14 kept_15 stage_16 => (bif (stage_16 == (5 : Int)) then (bif (removed_14 != b.f0_Occ.f2_Kept) then (bif (!kept_15) then some true else some (b.f0_Occ.f2_Kept)) else some false) else some false)) b b.f1_Code (s0 b) hr (by simp [s0]; omega)
  refine this.trans ?_
  unfold formedF
  cases chain b (s0 b) b.f1_Code with
  | none => rfl
  | some s =>
    simp only [finOk]
    cases s.sg == 5 <;> cases s.rm <;> cases s.kp <;> cases b.f0_Occ.f2_Kept <;> rfl
theorem cfi_L0 : ∀ (l : List S_api_Instr) (i : Nat), (∀ x ∈ l, Bi x) → ∃ r, lf_slices_IndexFunc_s8_L0 (some (-1)) l i = some r ∧ decide (r ≥ (0 : Int)) = !l.all rI
  | [], i, _ => ⟨-1, by rw [lf_slices_IndexFunc_s8_L0], rfl⟩
  | x :: l, i, h => by
    rw [lf_slices_IndexFunc_s8_L0, lf_instr_Check_1, right_lf (h x (List.mem_cons_self ..)), Option.bind_some, Option.bind_some]
    cases hr : rI x with
    | false => exact ⟨(i : Int), rfl, by rw [decide_eq_true (by omega)]; simp [hr]⟩
    | true =>
      obtain ⟨r, h1, h2⟩ := cfi_L0 l (i + 1) fun y hy => h y (List.mem_cons_of_mem _ hy)
      exact ⟨r, h1, by rw [h2]; simp [hr]⟩
/-- The first error of a block. -/
noncomputable def cK (b : S_api_Block) : Int :=
  if 200 < b.f1_Code.length then 6 else if inB b.f0_Occ.f0_Rule 0 39 = false then 2 else if inB b.f0_Occ.f1_Head 0 3 = false then 2 else if b.f1_Code.all rI = false then 2 else if formedF b = false then 18 else 0
theorem check_lf (b : S_api_Block) (h : BiB b) : lf_instr_Check b = some (cK b) := by
  rw [lf_instr_Check, cK]
  by_cases hl : 200 < b.f1_Code.length
  · rw [decide_eq_true (by omega), cond_true, if_pos hl]
  · rw [decide_eq_false (by omega), cond_false, if_neg hl, rule_lf, Option.bind_some, register_lf, Option.bind_some]
    cases h1 : inB b.f0_Occ.f0_Rule 0 39 with
    | false => simp
    | true =>
      cases h2 : inB b.f0_Occ.f1_Head 0 3 with
      | false => simp
      | true =>
        obtain ⟨r, g1, g2⟩ := cfi_L0 b.f1_Code 0 h
        rw [lf_slices_ContainsFunc_s6, lf_slices_IndexFunc_s8, g1, Option.bind_some, Option.bind_some, g2]
        cases h3 : b.f1_Code.all rI with
        | false => simp
        | true =>
          rw [formed_lf b (by have := inB_iff.1 h2; omega) (fun x hx => rg_of (List.all_eq_true.1 h3 x hx)) (by omega)]
          cases formedF b <;> simp
/-! ### InstrBound -/
theorem want_le (op : Int) : wantI op = 0 ∨ wantI op = 1 ∨ wantI op = 2 ∨ wantI op = 3 ∨ wantI op = 4 ∨ wantI op = 5 := by
  unfold wantI
  grind
theorem want5 {op : Int} : wantI op = 5 ↔ op = 10 := by
  unfold wantI
  grind
end Go.Proofs.YtbdhjkneoandiaaGreat


namespace Go.Proofs.YtbdhjkneoandiaaGreat
set_option maxRecDepth 100000
open Go.RowKit

theorem reps_in {p : Addr → Prop} {w : World} : ∀ {ds : List D} {cs : List Value}, Reps p w ds cs → ∀ d ∈ ds, ∃ v, Rep p w d v
  | [], _, _, _, h => by cases h
  | x :: ds, cs, h, d, hd => by
    simp only [Reps] at h
    obtain ⟨v, rest, _, h1, h2⟩ := h
    exact (List.mem_cons.1 hd).elim (fun e => e ▸ ⟨v, h1⟩) (reps_in h2 d)
theorem agg_mem {p : Addr → Prop} {w : World} {fs : List D} {v : Value} (h : Rep p w (.agg fs) v) (d : D) (hd : d ∈ fs) : ∃ v, Rep p w d v := by
  simp only [Rep] at h
  obtain ⟨cs, _, h, _⟩ := h
  exact reps_in h d hd
theorem lst_mem {α : Type} {f : α → D} {p : Addr → Prop} {w : World} {l : List α} {v : Value} (h : Rep p w (.lst (l.map f)) v) (a : α) (ha : a ∈ l) : ∃ v, Rep p w (f a) v := by
  simp only [Rep] at h
  obtain ⟨A, c, xs, _, _, _, _, h, _⟩ := h
  exact reps_in h _ (List.mem_map.2 ⟨a, ha, rfl⟩)
theorem str_le {p : Addr → Prop} {w : World} {s : ByteArray} {v : Value} (h : Rep p w (.str s) v) : s.size ≤ 9223372036854775807 := by
  simp only [Rep] at h
  exact h.2
theorem ni_of {p : Addr → Prop} {w : World} {r : S_api_Instr} {v : Value} (h : Rep p w (enc_S_api_Instr r) v) : Ni r := by
  obtain ⟨_, h1⟩ := agg_mem h (encG r.f3_Goal) (by simp)
  obtain ⟨_, h2⟩ := agg_mem h1 (.str r.f3_Goal.n) (by simp)
  exact str_le h2
theorem lst_len {α : Type} {f : α → D} {p : Addr → Prop} {w : World} {l : List α} {v : Value} (h : Rep p w (.lst (l.map f)) v) : l.length ≤ 9223372036854775807 := by
  simp only [Rep] at h
  obtain ⟨A, c, xs, _, h1, h2, _⟩ := h
  simp only [List.length_map] at h1
  omega
theorem nib_of {p : Addr → Prop} {w : World} {b : S_api_Block} {v : Value} (h : Rep p w (enc_S_api_Block b) v) : NiB b ∧ b.f1_Code.length ≤ 9223372036854775807 := by
  obtain ⟨_, h1⟩ := agg_mem h (.lst (b.f1_Code.map enc_S_api_Instr)) (by simp)
  refine ⟨fun i hi => ?_, lst_len h1⟩
  obtain ⟨_, h2⟩ := lst_mem h1 i hi
  exact ni_of h2
theorem nim_of {p : Addr → Prop} {w : World} {m : S_api_Image} {v : Value} (h : Rep p w (enc_S_api_Image m) v) : NiM m := fun u hu => by
  obtain ⟨_, h1⟩ := agg_mem h (.lst (m.f0_Units.map enc_S_api_Unit)) (by simp)
  obtain ⟨_, h2⟩ := lst_mem h1 u hu
  obtain ⟨_, h3⟩ := agg_mem h2 (.str u.f0_Name) (by simp)
  obtain ⟨_, h4⟩ := agg_mem h2 (.lst (u.f2_Blocks.map enc_S_api_Block)) (by simp)
  exact ⟨⟨str_le h3, fun b hb => (let ⟨_, h5⟩ := lst_mem h4 b hb; (nib_of h5).1)⟩, fun b hb => (let ⟨_, h5⟩ := lst_mem h4 b hb; (nib_of h5).2)⟩
end Go.Proofs.YtbdhjkneoandiaaGreat


namespace Go.Proofs.YtbdhjkneoandiaaGreat
set_option maxRecDepth 100000
open Go.RowKit
theorem fl_constraintref32_held_0 : Fld Tryz.prog 104 0 0 := ⟨_, _, 1, Tryz.underlying104, rfl, rfl, by kernel_rfl, by decide⟩
theorem fl_constraintref32_held_1 : Fld Tryz.prog 104 1 1 := ⟨_, _, 1, Tryz.underlying104, rfl, rfl, by kernel_rfl, by decide⟩
theorem fl_constraintref32_held_2 : Fld Tryz.prog 104 2 2 := ⟨_, _, 1, Tryz.underlying104, rfl, rfl, by kernel_rfl, by decide⟩
theorem bt_constraintref32_held : BuildT Tryz.prog 104 [.int .i64 0, .str ⟨#[]⟩, .int .i64 0] := .mk rfl (by kernel_rfl) Tryz.underlying104 (by kernel_rfl)
theorem el_L_constraintref32_held : ElT Tryz.prog 105 104 3 32 := .of Tryz.underlying105 (by kernel_rfl) (by decide)
theorem cl_constraintref32_Check : callee Tryz.prog 7 := ⟨_, _, Tryz.func7, rfl, by decide⟩
theorem cl_constraintref32_CheckImage : callee Tryz.prog 11 := ⟨_, _, Tryz.func11, rfl, by decide⟩
theorem cl_constraintref32_order : callee Tryz.prog 23 := ⟨_, _, Tryz.func23, rfl, by decide⟩
theorem cl_constraintref32_registers : callee Tryz.prog 24 := ⟨_, _, Tryz.func24, rfl, by decide⟩
theorem cl_constraintref32_kept : callee Tryz.prog 25 := ⟨_, _, Tryz.func25, rfl, by decide⟩
theorem cl_constraintref32_access : callee Tryz.prog 31 := ⟨_, _, Tryz.func31, rfl, by decide⟩
theorem cl_constraintref32_units : callee Tryz.prog 32 := ⟨_, _, Tryz.func32, rfl, by decide⟩
theorem cl_constraintref32_block : callee Tryz.prog 33 := ⟨_, _, Tryz.func33, rfl, by decide⟩
theorem cl_constraintref32_phase : callee Tryz.prog 45 := ⟨_, _, Tryz.func45, rfl, by decide⟩
theorem cl_constraintref32_in : callee Tryz.prog 46 := ⟨_, _, Tryz.func46, rfl, by decide⟩
theorem cl_constraintref32_first : callee Tryz.prog 47 := ⟨_, _, Tryz.func47, rfl, by decide⟩
theorem cl_constraintref32_apart : callee Tryz.prog 62 := ⟨_, _, Tryz.func62, rfl, by decide⟩
end Go.Proofs.YtbdhjkneoandiaaGreat

