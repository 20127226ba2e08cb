/-
  Texts of the seat, merged.
-/
import Derived.Test.YtgndcnknmkcacaaLGA
import Derived.Test.YtgndcnknmkcacaaLGB
import Derived.Test.YtgndcnknmkcacaaLGC
import Derived.Test.YtgndcnknmkcacaaLGD
import Derived.Test.YtgndcnknmkcacaaLGE
import Derived.Test.YtgndcnknmkcacaaChecked
import Derived.WalkKit
import Derived.Lib.Hide
import Derived.Lib.AppendStr
import Derived.Deep.AppendLies
import Derived.Deep.AppendSrc
import Derived.Deep.Draws
import Derived.Deep.QuietTactic
import Derived.BigQuiet
import Derived.Deep.RegionWith
import Derived.Maps.AppendAt
import Derived.WalkSpells
import Derived.Orders
import Derived.Deep.Slices
import Derived.Deep.Fields
import Derived.ChangeArms
import Derived.Lib.OthersKept
import Derived.Lib.TrimU
import Derived.Lib.IndexAny
import Derived.Deep.LoopGhost
import Derived.Lib.Bytealg
import Derived.RangeFuncBox
import Derived.RangeFuncNested
import Derived.RangeFuncBound
import Derived.RangeFuncCalls
import Derived.RangeFuncLeaves
import Derived.Shelf.Abstract
import Derived.OwnWalkIn
import Derived.TacticsInMore
import Derived.LoopNIn
import Derived.LoopIn
import Derived.RangeFuncWrites
import Derived.Maps.OwnIn
import Derived.Maps.Views
import Derived.Laws.OwnMore
import Derived.Maps.OwnSet
import Derived.Test.YtgndcnknmkcacaaRows
import Derived.ProofKit
import Derived.OpenShut
import Derived.Carry
import Derived.OrdersIn
import Derived.Great.BuildSlice
import Derived.ArgAppend
import Derived.Laws.MakeOwn
import Derived.Laws.Cover3
import Derived.Laws.CopyRow
import Derived.MapKept
import Derived.Maps.RangeRun
import Derived.DeepKeys5
import Derived.WideKeyRuns
import Derived.Tactics
import Derived.Tactics2
import Derived.Defers
import Derived.Recover
import Derived.Laws.Pointers
import Derived.ChangeSlices
set_option linter.unusedVariables false
set_option linter.unusedSimpArgs false
set_option linter.unnecessarySimpa false
set_option linter.all false

namespace Go.Proofs.Ytgndcnknmkcacaa
set_option maxRecDepth 100000
open Go.RowKit

def TotP {α : Type} (x : Option α) (Q : α → Prop) : Prop := ∃ a, x = some a ∧ Q a
theorem TotP.pure {α : Type} {a : α} {Q : α → Prop} (h : Q a) : TotP (some a) Q := ⟨a, rfl, h⟩
theorem TotP.bind {α β : Type} {x : Option α} {R : α → Prop} {f : α → Option β} {Q : β → Prop} (h : TotP x R) (hf : ∀ a, R a → TotP (f a) Q) : TotP (x.bind f) Q := by
  obtain ⟨a, rfl, ha⟩ := h
  exact hf a ha
theorem TotP.cond {α : Type} {b : Bool} {x y : Option α} {Q : α → Prop} (h1 : b = true → TotP x Q) (h2 : b = false → TotP y Q) : TotP (bif b then x else y) Q := by
  cases b with
  | true => exact h1 rfl
  | false => exact h2 rfl
def Any {α : Type} : α → Prop := fun _ => True
theorem bx_tot {α β : Type} {x : Option (Int ⊕ α)} {f : α → Option (Int ⊕ β)} (h : TotP x Any) (hf : ∀ a, x = some (.inr a) → TotP (f a) Any) : TotP (bindX x f) Any := by
  obtain ⟨s, rfl, _⟩ := h
  cases s with
  | inl c => exact ⟨.inl c, rfl, trivial⟩
  | inr a => exact hf a rfl
theorem need_tot (ok : Bool) (e : Int) : TotP (lf_scope_need ok e) Any := by
  unfold lf_scope_need
  cases ok <;> exact ⟨_, rfl, trivial⟩
theorem need_ok {ok : Bool} {e : Int} {u : Unit} (h : lf_scope_need ok e = some (.inr u)) : ok = true := by
  unfold lf_scope_need at h
  cases ok with
  | true => rfl
  | false => simp at h
theorem bx_need {β : Type} {ok : Bool} {e : Int} {f : Unit → Option (Int ⊕ β)} (hf : ok = true → TotP (f ()) Any) : TotP (bindX (lf_scope_need ok e) f) Any :=
  bx_tot (need_tot _ _) fun _ h => hf (need_ok h)

/-! ### weights -/
def wA : List At → Nat
  | [] => 0
  | a :: l => 1 + wtL a.ts + wA l
def wG : List Gl → Nat
  | [] => 0
  | a :: l => 1 + wtL a.ts + wG l
def NmA (l : List At) : Prop := ∀ a ∈ l, a.n.size ≤ 9223372036854775807
def NmG (l : List Gl) : Prop := ∀ a ∈ l, a.n.size ≤ 9223372036854775807
theorem wr_step (m : Int) (s : Nat) (h1 : 0 ≤ m) (h2 : m ≤ 1000) (hs : s ≤ 9223372036854775807) : wr ((wr (m - 1)) - (wr (Int.tdiv (s : Int) 8))) = m - 1 - ((s / 8 : Nat) : Int) := by
  have e : Int.tdiv (s : Int) 8 = ((s / 8 : Nat) : Int) := by
    rw [Int.tdiv_eq_ediv_of_nonneg (by omega)]
    rfl
  rw [e, wr_eq (n := m - 1) (by omega), wr_eq (n := ((s / 8 : Nat) : Int)) (by omega), wr_eq (by omega)]
theorem x_weigh_eq (ts : List T) (m : Int) (h1 : -9223372036854775808 ≤ m) (h2 : m ≤ 1000) : x_weigh ts m 64 = some (weighF 64 ts m) := by
  rw [x_weigh, if_pos ⟨⟨h1, by omega⟩, by omega, by omega⟩]
  rfl
theorem ga_lf (k : Int → Option Bool) : ∀ (l : List At) (m : Int), m ≤ 1000 → NmA l → ∃ r, lf_constraintref03_GreatAtoms_L0 k l m = k r ∧ (0 ≤ r → (wA l : Int) + r ≤ m)
  | [], m, _, _ => ⟨m, by rw [lf_constraintref03_GreatAtoms_L0], fun _ => by simp [wA]⟩
  | a :: l, m, hm, hn => by
    rw [lf_constraintref03_GreatAtoms_L0]
    by_cases h : m ≥ 0
    · have hs := hn a (List.mem_cons_self ..)
      rw [decide_eq_true h, cond_true, wr_step m _ h hm hs, x_weigh_eq _ _ (by omega) (by omega), Option.bind_some]
      have h1 := weighF_ge 64 a.ts (m - 1 - ((a.n.size / 8 : Nat) : Int))
      have h2 := weigh_wt 64 a.ts (m - 1 - ((a.n.size / 8 : Nat) : Int))
      obtain ⟨r, e1, e2⟩ := ga_lf k l (weighF 64 a.ts (m - 1 - ((a.n.size / 8 : Nat) : Int))) (by omega) fun x hx => hn x (List.mem_cons_of_mem _ hx)
      refine ⟨r, e1, fun hr => ?_⟩
      have := e2 hr
      simp only [wA]
      omega
    · rw [decide_eq_false h, cond_false]
      exact ⟨m, rfl, fun hr => absurd hr h⟩
theorem gg_lf (k : Int → Option Bool) : ∀ (l : List Gl) (m : Int), m ≤ 1000 → NmG l → ∃ r, lf_constraintref03_GreatGoals_L0 k l m = k r ∧ (0 ≤ r → (wG l : Int) + r ≤ m)
  | [], m, _, _ => ⟨m, by rw [lf_constraintref03_GreatGoals_L0], fun _ => by simp [wG]⟩
  | a :: l, m, hm, hn => by
    rw [lf_constraintref03_GreatGoals_L0]
    by_cases h : m ≥ 0
    · have hs := hn a (List.mem_cons_self ..)
      rw [decide_eq_true h, cond_true, wr_step m _ h hm hs, x_weigh_eq _ _ (by omega) (by omega), Option.bind_some]
      have h1 := weighF_ge 64 a.ts (m - 1 - ((a.n.size / 8 : Nat) : Int))
      have h2 := weigh_wt 64 a.ts (m - 1 - ((a.n.size / 8 : Nat) : Int))
      obtain ⟨r, e1, e2⟩ := gg_lf k l (weighF 64 a.ts (m - 1 - ((a.n.size / 8 : Nat) : Int))) (by omega) fun x hx => hn x (List.mem_cons_of_mem _ hx)
      refine ⟨r, e1, fun hr => ?_⟩
      have := e2 hr
      simp only [wG]
      omega
    · rw [decide_eq_false h, cond_false]
      exact ⟨m, rfl, fun hr => absurd hr h⟩
theorem greatA_lf (l : List At) (m : Int) (hm : m ≤ 1000) (hn : NmA l) : TotP (lf_constraintref03_GreatAtoms l m) fun b => b = false → (wA l : Int) ≤ m := by
  unfold lf_constraintref03_GreatAtoms
  obtain ⟨r, e1, e2⟩ := ga_lf (fun m => some (decide (m < 0))) l m hm hn
  rw [e1]
  refine ⟨_, rfl, fun h => ?_⟩
  have := of_decide_eq_false h
  have := e2 (by omega)
  omega
theorem greatG_lf (l : List Gl) (m : Int) (hm : m ≤ 1000) (hn : NmG l) : TotP (lf_constraintref03_GreatGoals l m) fun b => b = false → (wG l : Int) ≤ m := by
  unfold lf_constraintref03_GreatGoals
  obtain ⟨r, e1, e2⟩ := gg_lf (fun m => some (decide (m < 0))) l m hm hn
  rw [e1]
  refine ⟨_, rfl, fun h => ?_⟩
  have := of_decide_eq_false h
  have := e2 (by omega)
  omega
structure Nm (r : S_api_Rule) : Prop where
  a : NmA r.f1_Keep
  b : NmA r.f2_Remove
  c : NmG r.f3_Guard
  d : NmG r.f4_Body
structure Bd (r : S_api_Rule) : Prop where
  a : wA r.f1_Keep ≤ 1000
  b : wA r.f2_Remove ≤ 1000
  c : wG r.f3_Guard ≤ 1000
  d : wG r.f4_Body ≤ 1000
theorem greatR_L0 (k : Option Bool) (l0 : List S_api_Rule) (m : Int) (hm : m ≤ 1000) (kb : Bool) (hk : k = some kb) : ∀ l : List S_api_Rule, (∀ r ∈ l, Nm r) → TotP (lf_constraintref03_GreatRules_L0 k l0 m l) fun b => b = false → ∀ r ∈ l, Bd r
  | [], _ => by rw [lf_constraintref03_GreatRules_L0, hk]; exact ⟨_, rfl, fun _ r h => by cases h⟩
  | r :: l, hn => by
    have h := hn r (List.mem_cons_self ..)
    rw [lf_constraintref03_GreatRules_L0]
    refine .cond (fun _ => .pure fun h => by cases h) fun _ => ?_
    refine .cond (fun _ => .pure fun h => by cases h) fun _ => ?_
    refine .bind (greatA_lf _ m hm h.a) fun x hx => .cond (fun _ => .pure fun h => by cases h) fun h1 => ?_
    refine .bind (greatA_lf _ m hm h.b) fun y hy => .cond (fun _ => .pure fun h => by cases h) fun h2 => ?_
    refine .bind (greatG_lf _ m hm h.c) fun z hz => .cond (fun _ => .pure fun h => by cases h) fun h3 => ?_
    refine .bind (greatG_lf _ m hm h.d) fun u hu => .cond (fun _ => .pure fun h => by cases h) fun h4 => ?_
    obtain ⟨b, e1, e2⟩ := greatR_L0 k l0 m hm kb hk l fun x hx => hn x (List.mem_cons_of_mem _ hx)
    have := hx h1; have := hy h2; have := hz h3; have := hu h4
    exact ⟨b, e1, fun hb x hx => (List.mem_cons.1 hx).elim (fun e => e ▸ ⟨by omega, by omega, by omega, by omega⟩) (e2 hb x)⟩
theorem great_L0 {Q : Bool → Prop} (hQ : Q true) (k : Option Bool) (hk : TotP k Q) : ∀ l : List S_api_Decl, TotP (lf_constraintref15_Great_L0 k l) Q
  | [] => by rw [lf_constraintref15_Great_L0]; exact hk
  | d :: l => by
    rw [lf_constraintref15_Great_L0]
    exact .cond (fun _ => .pure hQ) fun _ => great_L0 hQ k hk l
theorem great_lf (p : S_api_Program) (m : Int) (hm : m ≤ 1000) (hn : ∀ r ∈ p.f1_Rules, Nm r) : TotP (lf_constraintref15_Great p m) fun b => b = false → ∀ r ∈ p.f1_Rules, Bd r := by
  unfold lf_constraintref15_Great
  refine .cond (fun _ => .pure fun h => by cases h) fun _ => .cond (fun _ => .pure fun h => by cases h) fun _ => great_L0 (fun h => by cases h) _ ?_ _
  exact .bind (greatR_L0 _ _ m hm false rfl _ hn) fun b hb => .pure hb

/-! ### the checks end -/
theorem uo_len (ts : List T) : (uniq [] (occL ts)).length ≤ wtL ts := by
  have := uniq_len (occL ts) []
  have := occL_wt ts
  simp at *
  omega
theorem av_L1 {Q : List Int → Prop} (k : List Int → Option (List Int)) : ∀ (l : List At) (out : List Int), out.length + wA l ≤ 1000000 → (∀ o, o.length ≤ out.length + wA l → TotP (k o) Q) → TotP (lf_scope_atomVars_L1 k l out) Q
  | [], out, _, h => by rw [lf_scope_atomVars_L1]; exact h out (by omega)
  | a :: l, out, hb, h => by
    have hu := uo_len a.ts
    simp only [wA] at hb h
    rw [lf_scope_atomVars_L1, x_varsA_eq _ (by omega), Option.bind_some, appO_eq (by omega) (by omega), Option.bind_some]
    refine av_L1 k l _ (by rw [List.length_append]; omega) fun o ho => h o ?_
    rw [List.length_append] at ho
    omega
theorem avs_L1 {Q : List Int → Prop} (k : List Int → Option (List Int)) : ∀ (l : List At) (out : List Int), out.length + wA l ≤ 1000000 → (∀ o, o.length ≤ out.length + wA l → TotP (k o) Q) → TotP (lf_scope_atomVars_s1_L1 k l out) Q
  | [], out, _, h => by rw [lf_scope_atomVars_s1_L1]; exact h out (by omega)
  | a :: l, out, hb, h => by
    have hu := uo_len a.ts
    simp only [wA] at hb h
    rw [lf_scope_atomVars_s1_L1, x_varsA_eq _ (by omega), Option.bind_some, appO_eq (by omega) (by omega), Option.bind_some]
    refine avs_L1 k l _ (by rw [List.length_append]; omega) fun o ho => h o ?_
    rw [List.length_append] at ho
    omega
theorem gv_L1 {Q : List Int → Prop} (k : List Int → Option (List Int)) : ∀ (l : List Gl) (out : List Int), out.length + wG l ≤ 1000000 → (∀ o, o.length ≤ out.length + wG l → TotP (k o) Q) → TotP (lf_scope_goalVars_L1 k l out) Q
  | [], out, _, h => by rw [lf_scope_goalVars_L1]; exact h out (by omega)
  | a :: l, out, hb, h => by
    have hu := uo_len a.ts
    simp only [wG] at hb h
    rw [lf_scope_goalVars_L1, x_varsG_eq _ (by omega), Option.bind_some, appO_eq (by omega) (by omega), Option.bind_some]
    refine gv_L1 k l _ (by rw [List.length_append]; omega) fun o ho => h o ?_
    rw [List.length_append] at ho
    omega
theorem av_tot (a b : List At) (ha : wA a ≤ 1000) (hb : wA b ≤ 1000) : TotP (lf_scope_atomVars [a, b]) fun o => o.length ≤ 2000 := by
  rw [lf_scope_atomVars, lf_scope_atomVars_L0]
  refine av_L1 _ _ _ (by simp; omega) fun o ho => ?_
  rw [lf_scope_atomVars_L0]
  simp only [List.length_nil] at ho
  refine av_L1 _ _ _ (by omega) fun o' ho' => ?_
  rw [lf_scope_atomVars_L0]
  exact .pure (by omega)
theorem avs_tot (a b : List At) (ha : wA a ≤ 1000) (hb : wA b ≤ 1000) : TotP (lf_scope_atomVars_s1 [a, b]) fun o => o.length ≤ 2000 := by
  rw [lf_scope_atomVars_s1, lf_scope_atomVars_s1_L0]
  refine avs_L1 _ _ _ (by simp; omega) fun o ho => ?_
  rw [lf_scope_atomVars_s1_L0]
  simp only [List.length_nil] at ho
  refine avs_L1 _ _ _ (by omega) fun o' ho' => ?_
  rw [lf_scope_atomVars_s1_L0]
  exact .pure (by omega)
theorem gv_tot2 (a b : List Gl) (ha : wG a ≤ 1000) (hb : wG b ≤ 1000) : TotP (lf_scope_goalVars [a, b]) fun o => o.length ≤ 2000 := by
  rw [lf_scope_goalVars, lf_scope_goalVars_L0]
  refine gv_L1 _ _ _ (by simp; omega) fun o ho => ?_
  rw [lf_scope_goalVars_L0]
  simp only [List.length_nil] at ho
  refine gv_L1 _ _ _ (by omega) fun o' ho' => ?_
  rw [lf_scope_goalVars_L0]
  exact .pure (by omega)
theorem gv_tot1 (a : List Gl) (ha : wG a ≤ 1000) : TotP (lf_scope_goalVars [a]) fun o => o.length ≤ 2000 := by
  rw [lf_scope_goalVars, lf_scope_goalVars_L0]
  refine gv_L1 _ _ _ (by simp; omega) fun o ho => ?_
  rw [lf_scope_goalVars_L0]
  simp only [List.length_nil] at ho
  exact .pure (by omega)
theorem ixf_L0 (k : Option Int) (hk : TotP k Any) (s : ByteArray) : ∀ (l : List S_api_Decl) (i : Nat), TotP (lf_slices_IndexFunc_s4_L0 k s l i) Any
  | [], i => by rw [lf_slices_IndexFunc_s4_L0]; exact hk
  | d :: l, i => by
    rw [lf_slices_IndexFunc_s4_L0, lf_scope_declared_1, Option.bind_some]
    exact .cond (fun _ => .pure trivial) fun _ => ixf_L0 k hk s l _
theorem ixd_L0 (k : Option Int) (hk : TotP k Any) (s : S_api_Decl) : ∀ (l : List S_api_Decl) (i : Nat), TotP (lf_slices_Index_api_Decl_api_Decl_L0 k s l i) Any
  | [], i => by rw [lf_slices_Index_api_Decl_api_Decl_L0]; exact hk
  | d :: l, i => by
    rw [lf_slices_Index_api_Decl_api_Decl_L0]
    exact .cond (fun _ => .pure trivial) fun _ => ixd_L0 k hk s l _
theorem ixi_L0 (k : Option Int) (hk : TotP k Any) (s : Int) : ∀ (l : List Int) (i : Nat), TotP (lf_slices_Index_int_int_L0 k s l i) Any
  | [], i => by rw [lf_slices_Index_int_int_L0]; exact hk
  | d :: l, i => by
    rw [lf_slices_Index_int_int_L0]
    exact .cond (fun _ => .pure trivial) fun _ => ixi_L0 k hk s l _
theorem declared_tot (ds : List S_api_Decl) (s : ByteArray) (n : Int) : TotP (lf_scope_declared ds s n) Any := by
  unfold lf_scope_declared lf_slices_ContainsFunc_s3 lf_slices_IndexFunc_s4 lf_scope_Declared lf_slices_Contains_api_Decl_api_Decl lf_slices_Index_api_Decl_api_Decl
  refine .bind (.bind (ixf_L0 _ ⟨_, rfl, trivial⟩ _ _ _) fun _ _ => .pure (Q := Any) trivial) fun _ _ => bx_need fun _ => ?_
  refine .bind (.bind (.bind (ixd_L0 _ ⟨_, rfl, trivial⟩ _ _ _) fun _ _ => .pure (Q := Any) trivial) fun _ _ => .pure (Q := Any) trivial) fun _ _ => bx_need fun _ => .pure trivial
theorem calls_L0 (k : Option (Int ⊕ Unit)) (hk : TotP k Any) (ds : List S_api_Decl) : ∀ l : List Gl, TotP (lf_scope_calls_L0 k ds l) Any
  | [] => by rw [lf_scope_calls_L0]; exact hk
  | g :: l => by
    rw [lf_scope_calls_L0]
    exact .cond (fun _ => bx_tot (declared_tot _ _ _) fun _ _ => calls_L0 k hk ds l) fun _ => calls_L0 k hk ds l
theorem calls_tot (ds : List S_api_Decl) (l : List Gl) : TotP (lf_scope_calls ds l) Any := calls_L0 _ ⟨_, rfl, trivial⟩ _ _
theorem test_tot (n : Int) : TotP (lf_scope_test n) Any := by
  unfold lf_scope_test
  exact .cond (fun _ => .pure trivial) fun _ => .pure trivial
theorem cr_L6 (k : Option (Int ⊕ Unit)) (hk : TotP k Any) (v : List Int) : ∀ l : List Int, TotP (lf_scope_CheckRule_1_L6 k v l) Any
  | [] => by rw [lf_scope_CheckRule_1_L6]; exact hk
  | x :: l => by
    rw [lf_scope_CheckRule_1_L6, lf_slices_Contains_int_int, lf_slices_Index_int_int]
    exact .bind (.bind (ixi_L0 _ ⟨_, rfl, trivial⟩ _ _ _) fun _ _ => .pure (Q := Any) trivial) fun _ _ => bx_need fun _ => cr_L6 k hk v l
theorem cr_L5 (k : Option (Int ⊕ Unit)) (hk : TotP k Any) : ∀ l : List Gl, TotP (lf_scope_CheckRule_1_L5 k l) Any
  | [] => by rw [lf_scope_CheckRule_1_L5]; exact hk
  | x :: l => by
    rw [lf_scope_CheckRule_1_L5]
    exact .bind (test_tot _) fun _ _ => bx_need fun _ => cr_L5 k hk l
theorem cr_L4 (k : Option (Int ⊕ Unit)) (hk : TotP k Any) : ∀ l : List Gl, TotP (lf_scope_CheckRule_1_L4 k l) Any
  | [] => by rw [lf_scope_CheckRule_1_L4]; exact hk
  | x :: l => by
    rw [lf_scope_CheckRule_1_L4]
    exact .bind (test_tot _) fun _ _ => .cond (fun _ => bx_need fun _ => cr_L4 k hk l) fun _ => bx_need fun _ => cr_L4 k hk l
theorem cr_L7 (k : Option (Int ⊕ Unit)) (hk : TotP k Any) (ds : List S_api_Decl) : ∀ l : List At, TotP (lf_scope_CheckRule_1_L7 k ds l) Any
  | [] => by rw [lf_scope_CheckRule_1_L7]; exact hk
  | x :: l => by
    rw [lf_scope_CheckRule_1_L7]
    exact bx_tot (declared_tot _ _ _) fun _ _ => cr_L7 k hk ds l
theorem cr_L8 (k : Option (Int ⊕ Unit)) (hk : TotP k Any) : ∀ l : List Gl, wG l ≤ 1000 → TotP (lf_scope_CheckRule_1_L8 k l) Any
  | [], _ => by rw [lf_scope_CheckRule_1_L8]; exact hk
  | x :: l, h => by
    simp only [wG] at h
    rw [lf_scope_CheckRule_1_L8, x_rightG_eq _ (by omega), Option.bind_some]
    exact bx_need fun _ => cr_L8 k hk l (by omega)
theorem cr_L9 (k : Option (Int ⊕ Unit)) (hk : TotP k Any) : ∀ l : List At, wA l ≤ 1000 → TotP (lf_scope_CheckRule_1_L9 k l) Any
  | [], _ => by rw [lf_scope_CheckRule_1_L9]; exact hk
  | x :: l, h => by
    simp only [wA] at h
    rw [lf_scope_CheckRule_1_L9, x_rightA_eq _ (by omega), Option.bind_some]
    exact bx_need fun _ => cr_L9 k hk l (by omega)
theorem cr_L2 (k : Int → Option (Int ⊕ Unit)) (hk : ∀ n, TotP (k n) Any) : ∀ (l : List Int) (n : Int), TotP (lf_scope_CheckRule_1_L2 k l n) Any
  | [], n => by rw [lf_scope_CheckRule_1_L2]; exact hk n
  | x :: l, n => by
    rw [lf_scope_CheckRule_1_L2]
    exact bx_need fun _ => .cond (fun _ => cr_L2 k hk l _) fun _ => cr_L2 k hk l _
theorem cr_L3 (k : Option (Int ⊕ Unit)) (hk : TotP k Any) (r : S_api_Rule) (ds : List S_api_Decl) : TotP (lf_scope_CheckRule_1_L3 k r ds (2 - 0 : Int).toNat 0) Any :=
  (cr_L7 _ (cr_L7 _ hk ds r.f2_Remove) ds r.f1_Keep : TotP (lf_scope_CheckRule_1_L7 (lf_scope_CheckRule_1_L7 k ds r.f2_Remove) ds r.f1_Keep) Any)
theorem cr_L1 (k : Option (Int ⊕ Unit)) (hk : TotP k Any) (r : S_api_Rule) (h : Bd r) : TotP (lf_scope_CheckRule_1_L1 k r (2 - 0 : Int).toNat 0) Any :=
  (cr_L8 _ (cr_L8 _ hk r.f4_Body h.d) r.f3_Guard h.c : TotP (lf_scope_CheckRule_1_L8 (lf_scope_CheckRule_1_L8 k r.f4_Body) r.f3_Guard) Any)
theorem cr_L0 (k : Option (Int ⊕ Unit)) (hk : TotP k Any) (r : S_api_Rule) (h : Bd r) : TotP (lf_scope_CheckRule_1_L0 k r (2 - 0 : Int).toNat 0) Any :=
  (cr_L9 _ (cr_L9 _ hk r.f2_Remove h.b) r.f1_Keep h.a : TotP (lf_scope_CheckRule_1_L9 (lf_scope_CheckRule_1_L9 k r.f2_Remove) r.f1_Keep) Any)
theorem rule_tot (ds : List S_api_Decl) (r : S_api_Rule) (h : Bd r) : TotP (lf_scope_CheckRule ds r) Any := by
  unfold lf_scope_CheckRule lf_scope_CheckRule_1
  refine .bind (R := Any) ?_ fun _ _ => .pure trivial
  unfold lf_scope_CheckRule_1_J0
  have key : TotP (lf_scope_CheckRule_1_L0 (lf_scope_CheckRule_1_L1 ((lf_scope_atomVars_s1 [r.f1_Keep, r.f2_Remove]).bind fun r_3 =>
    (lf_scope_goalVars [r.f3_Guard, r.f4_Body]).bind fun r_5 =>
    (appO 8 r_3 r_5).bind fun l_6 =>
    lf_scope_CheckRule_1_L2 (fun next_11 =>
    bindX (lf_scope_need (r.f5_Vars == next_11) 2) fun _ =>
    lf_scope_CheckRule_1_J1 (lf_scope_CheckRule_1_L3 (bindX (lf_scope_calls ds r.f3_Guard) fun _ =>
    bindX (lf_scope_calls ds r.f4_Body) fun _ =>
    lf_scope_CheckRule_1_L4 (lf_scope_CheckRule_1_L5 ((lf_scope_atomVars [r.f1_Keep, r.f2_Remove]).bind fun r_18 =>
    (lf_scope_goalVars [r.f3_Guard]).bind fun r_19 =>
    lf_scope_CheckRule_1_L6 (some (.inr ())) r_18 r_19) r.f4_Body) r.f3_Guard) r ds (2 - 0 : Int).toNat 0) r) l_6 0) r (2 - 0 : Int).toNat 0) r (2 - 0 : Int).toNat 0) Any := by
    refine cr_L0 _ (cr_L1 _ ?_ r h) r h
    refine .bind (avs_tot _ _ h.a h.b) fun x hx => .bind (gv_tot2 _ _ h.c h.d) fun y hy => ?_
    rw [appO_eq (by omega) (by omega), Option.bind_some]
    refine cr_L2 _ (fun n => bx_need fun _ => ?_) _ _
    have k3 : TotP (lf_scope_CheckRule_1_L3 (bindX (lf_scope_calls ds r.f3_Guard) fun _ =>
      bindX (lf_scope_calls ds r.f4_Body) fun _ =>
      lf_scope_CheckRule_1_L4 (lf_scope_CheckRule_1_L5 ((lf_scope_atomVars [r.f1_Keep, r.f2_Remove]).bind fun r_18 =>
      (lf_scope_goalVars [r.f3_Guard]).bind fun r_19 =>
      lf_scope_CheckRule_1_L6 (some (.inr ())) r_18 r_19) r.f4_Body) r.f3_Guard) r ds (2 - 0 : Int).toNat 0) Any := by
      refine cr_L3 _ (bx_tot (calls_tot _ _) fun _ _ => bx_tot (calls_tot _ _) fun _ _ => cr_L4 _ (cr_L5 _ ?_ _) _) r ds
      exact .bind (av_tot _ _ h.a h.b) fun _ _ => .bind (gv_tot1 _ h.c) fun _ _ => cr_L6 _ ⟨_, rfl, trivial⟩ _ _
    unfold lf_scope_CheckRule_1_J1
    refine .cond (fun _ => bx_need fun _ => k3) fun _ => ?_
    rw [x_isName_eq _ trivial, Option.bind_some]
    exact bx_need fun _ => k3
  exact .cond (fun _ => .cond (fun _ => .cond (fun _ => bx_need fun _ => key) fun _ => bx_need fun _ => key) fun _ => bx_need fun _ => key) fun _ => bx_need fun _ => key
end Go.Proofs.Ytgndcnknmkcacaa


namespace Go.Proofs.Ytgndcnknmkcacaa
set_option maxRecDepth 100000
open Go.RowKit

set_option maxRecDepth 100000 in
theorem live15 : lf_constraintlaw15_live = some true := by
  kernel_rfl

theorem mputO_eq {α β : Type} [DecidableEq α] (l : List (α × β)) (x : α) (d : β) (h : l.length < 9223372036854775807) : mputO l x d = some (mput l x d) := if_pos h
theorem cl_tot (p : S_api_Program) : ∀ (l : List S_api_Rule) (i : Nat), (∀ x ∈ l, Bd x) → TotP (lf_scope_Check_L0 (some (0, 0)) p l i) Any
  | [], i, _ => by rw [lf_scope_Check_L0]; exact .pure trivial
  | q :: l, i, h => by
    rw [lf_scope_Check_L0]
    exact .bind (rule_tot _ _ (h q (List.mem_cons_self ..))) fun _ _ => .cond (fun _ => .pure trivial) fun _ => cl_tot p l _ fun x hx => h x (List.mem_cons_of_mem _ hx)
/-! ### names are strings of the machine -/
theorem reps_in {p : Addr → Prop} {w : World} : ∀ {ds : List D} {cs : List Value}, Reps p w ds cs → ∀ d ∈ ds, ∃ v, Rep p w d v
  | [], _, _, _, h => by cases h
  | x :: ds, cs, h, d, hd => by
    simp only [Reps] at h
    obtain ⟨v, rest, _, h1, h2⟩ := h
    exact (List.mem_cons.1 hd).elim (fun e => e ▸ ⟨v, h1⟩) (reps_in h2 d)
theorem agg_mem {p : Addr → Prop} {w : World} {fs : List D} {v : Value} (h : Rep p w (.agg fs) v) (d : D) (hd : d ∈ fs) : ∃ v, Rep p w d v := by
  simp only [Rep] at h
  obtain ⟨cs, _, h, _⟩ := h
  exact reps_in h d hd
theorem lst_mem {α : Type} {f : α → D} {p : Addr → Prop} {w : World} {l : List α} {v : Value} (h : Rep p w (.lst (l.map f)) v) (a : α) (ha : a ∈ l) : ∃ v, Rep p w (f a) v := by
  simp only [Rep] at h
  obtain ⟨A, c, xs, _, _, _, _, h, _⟩ := h
  exact reps_in h _ (List.mem_map.2 ⟨a, ha, rfl⟩)
theorem str_le {p : Addr → Prop} {w : World} {s : ByteArray} {v : Value} (h : Rep p w (.str s) v) : s.size ≤ 9223372036854775807 := by
  simp only [Rep] at h
  exact h.2
theorem nmA_of {p : Addr → Prop} {w : World} {l : List At} {v : Value} (h : Rep p w (.lst (l.map encA)) v) : NmA l := fun a ha => by
  obtain ⟨v, h⟩ := lst_mem h a ha
  obtain ⟨v, h⟩ := agg_mem h (.str a.n) (by simp)
  exact str_le h
theorem nmG_of {p : Addr → Prop} {w : World} {l : List Gl} {v : Value} (h : Rep p w (.lst (l.map encG)) v) : NmG l := fun a ha => by
  obtain ⟨v, h⟩ := lst_mem h a ha
  obtain ⟨v, h⟩ := agg_mem h (.str a.n) (by simp)
  exact str_le h
theorem nm_of {p : Addr → Prop} {w : World} {r : S_api_Rule} {v : Value} (h : Rep p w (enc_S_api_Rule r) v) : Nm r := by
  obtain ⟨_, h1⟩ := agg_mem h (.lst (r.f1_Keep.map encA)) (by simp)
  obtain ⟨_, h2⟩ := agg_mem h (.lst (r.f2_Remove.map encA)) (by simp)
  obtain ⟨_, h3⟩ := agg_mem h (.lst (r.f3_Guard.map encG)) (by simp)
  obtain ⟨_, h4⟩ := agg_mem h (.lst (r.f4_Body.map encG)) (by simp)
  exact ⟨nmA_of h1, nmA_of h2, nmG_of h3, nmG_of h4⟩
theorem nmP_of {p : Addr → Prop} {w : World} {q : S_api_Program} {v : Value} (h : Rep p w (enc_S_api_Program q) v) : ∀ r ∈ q.f1_Rules, Nm r := fun r hr => by
  obtain ⟨_, h1⟩ := agg_mem h (.lst (q.f1_Rules.map enc_S_api_Rule)) (by simp)
  obtain ⟨_, h2⟩ := lst_mem h1 r hr
  exact nm_of h2
end Go.Proofs.Ytgndcnknmkcacaa


namespace Go.Proofs.Ytgndcnknmkcacaa
set_option maxRecDepth 100000
open Go.RowKit

/-! ### the variables of the reference -/
theorem has_L0 (n : Int) : ∀ l : List Int, lf_constraintref03_has_L0 (some false) n l = some (decide (n ∈ l))
  | [] => by rw [lf_constraintref03_has_L0]; rfl
  | x :: l => by
    rw [lf_constraintref03_has_L0, has_L0 n l]
    by_cases h : x = n
    · subst h; simp
    · have h' : n ≠ x := fun e => h e.symm
      rw [beq_false_of_ne h]
      simp [h']
theorem has_lf (l : List Int) (n : Int) : lf_constraintref03_has l n = some (decide (n ∈ l)) := has_L0 n l
theorem refArgs_lf (t : T) : lf_constraintref03_args t = some t.used := by
  rw [lf_constraintref03_args, T.used]
  by_cases h : t.k = 2
  · rw [if_pos h, show (t.k == (2 : Int)) = true by simpa using h]; rfl
  · rw [if_neg h, show (t.k == (2 : Int)) = false by simpa using h]; rfl
theorem vars_L0 {rec : List Int → T → Option (List Int)} (k : List Int → Option (List Int)) : ∀ (ts : List T) (l : List Int) (m : Nat), (∀ t ∈ ts, ∀ l : List Int, l.length + wt t ≤ m → rec l t = some (uniq l (occT t))) → l.length + wtL ts ≤ m → lf_constraintref03_vars_s1_L0 k rec ts l = k (uniq l (occL ts))
  | [], l, m, _, _ => by rw [lf_constraintref03_vars_s1_L0]; simp [occL, uniq_nil]
  | t :: ts, l, m, h, hm => by
    simp only [wtL] at hm
    rw [lf_constraintref03_vars_s1_L0, h t (List.mem_cons_self ..) l (by omega)]
    simp only [Option.bind_some]
    have hl := uniq_len (occT t) l
    have ho := occ_wt t
    rw [vars_L0 k ts _ m (fun u hu => h u (List.mem_cons_of_mem _ hu)) (by omega), ← uniq_app]
    simp [occL]
theorem vars_lf : ∀ (fuel : Nat) (t : T) (l : List Int), wt t < fuel → l.length + wt t ≤ 1000000000 → lf_constraintref03_vars_s1 fuel l t = some (uniq l (occT t))
  | 0, _, _, h, _ => by omega
  | fuel + 1, t, l, h, hm => by
    rw [lf_constraintref03_vars_s1]
    have hwt := wt_eq t
    have key : ∀ l' : List Int, l'.length ≤ l.length + 1 → lf_constraintref03_vars_s1_L0 (fun l_9 => some l_9) (lf_constraintref03_vars_s1 fuel) t.used l' = some (uniq l' (occL t.used)) := fun l' hl' => by
      have hu := wtL_used t
      refine vars_L0 _ t.used l' (l'.length + wtL t.used) (fun u hu' l2 hl2 => vars_lf fuel u l2 ?_ ?_) (Nat.le_refl _)
      · have := wt_used hu'; omega
      · omega
    show lf_constraintref03_vars_s1_J0 _ _ _ = _
    unfold lf_constraintref03_vars_s1_J0
    rw [has_lf]
    simp only [Option.bind_some, refArgs_lf]
    by_cases hk : t.k = 1
    · rw [show (t.k == (1 : Int)) = true by simpa using hk]
      have hused : t.used = [] := by unfold T.used; rw [if_neg (by omega)]
      have hocc := occT_var hk
      simp only [cond_true]
      by_cases hx : t.i ∈ l
      · rw [decide_eq_true hx]
        simp only [Bool.not_true, cond_false]
        rw [key l (by omega), hocc, hused]
        simp [occL, uniq, addU, hx]
      · rw [decide_eq_false hx]
        simp only [Bool.not_false, cond_true]
        rw [appO_eq (by simp; omega) (by simp; omega)]
        simp only [Option.bind_some]
        rw [key _ (by simp), hocc, hused]
        simp [occL, uniq, addU, hx]
    · rw [show (t.k == (1 : Int)) = false by simpa using hk]
      simp only [cond_false]
      rw [key l (by omega), occT_eq hk]
theorem varsOf_L0 (fuel : Nat) (k : List Int → Option (List Int)) : ∀ (ts : List T) (l : List Int), wtL ts < fuel → l.length + wtL ts ≤ 1000000000 → lf_constraintref03_VarsOf_L0 k fuel ts l = k (uniq l (occL ts))
  | [], l, _, _ => by rw [lf_constraintref03_VarsOf_L0]; simp [occL, uniq_nil]
  | t :: ts, l, h, hm => by
    simp only [wtL] at h hm
    rw [lf_constraintref03_VarsOf_L0, vars_lf fuel t l (by omega) (by omega)]
    simp only [Option.bind_some]
    have hl := uniq_len (occT t) l
    have ho := occ_wt t
    rw [varsOf_L0 fuel k ts _ (by omega) (by omega), ← uniq_app]
    simp [occL]

theorem varsOf_lf (fuel : Nat) (ts : List T) (h : wtL ts < fuel) (hm : wtL ts ≤ 1000000000) : lf_constraintref03_VarsOf fuel ts = some (uniq [] (occL ts)) := by
  rw [lf_constraintref03_VarsOf, varsOf_L0 fuel _ ts [] h (by simpa using hm)]
theorem in_L0 (n : Int) : ∀ l : List Int, lf_constraintref15_in_L0 (some false) n l = some (decide (n ∈ l))
  | [] => by rw [lf_constraintref15_in_L0]; rfl
  | x :: l => by
    rw [lf_constraintref15_in_L0, in_L0 n l]
    by_cases h : x = n
    · subst h; simp
    · have h' : n ≠ x := fun e => h e.symm
      rw [beq_false_of_ne h]
      simp [h']
theorem in_lf (l : List Int) (n : Int) : lf_constraintref15_in l n = some (decide (n ∈ l)) := in_L0 n l

/-! ### the terms of atoms and goals -/
def tA : List At → List T
  | [] => []
  | a :: l => a.ts ++ tA l
def tGs : List Gl → List T
  | [] => []
  | a :: l => a.ts ++ tGs l
def vA : List At → List Int
  | [] => []
  | a :: l => uniq [] (occL a.ts) ++ vA l
def vG : List Gl → List Int
  | [] => []
  | a :: l => uniq [] (occL a.ts) ++ vG l
theorem vA_app : ∀ a b : List At, vA (a ++ b) = vA a ++ vA b
  | [], b => rfl
  | x :: a, b => by simp [vA, vA_app a b]
theorem vG_app : ∀ a b : List Gl, vG (a ++ b) = vG a ++ vG b
  | [], b => rfl
  | x :: a, b => by simp [vG, vG_app a b]
theorem tA_wt : ∀ l : List At, wtL (tA l) ≤ wA l
  | [] => by simp [tA, wA, wtL]
  | a :: l => by
    have := tA_wt l
    simp only [tA, wA, wtL_app]
    omega
theorem tGs_wt : ∀ l : List Gl, wtL (tGs l) ≤ wG l
  | [] => by simp [tGs, wG, wtL]
  | a :: l => by
    have := tGs_wt l
    simp only [tGs, wG, wtL_app]
    omega
theorem wA_len : ∀ l : List At, l.length ≤ wA l
  | [] => by simp [wA]
  | a :: l => by
    have := wA_len l
    simp only [wA, List.length_cons]
    omega
theorem wG_len : ∀ l : List Gl, l.length ≤ wG l
  | [] => by simp [wG]
  | a :: l => by
    have := wG_len l
    simp only [wG, List.length_cons]
    omega
theorem vA_len : ∀ l : List At, (vA l).length ≤ wA l
  | [] => by simp [vA, wA]
  | a :: l => by
    have := vA_len l
    have := uo_len a.ts
    simp only [vA, wA, List.length_append]
    omega
theorem vG_len : ∀ l : List Gl, (vG l).length ≤ wG l
  | [] => by simp [vG, wG]
  | a :: l => by
    have := vG_len l
    have := uo_len a.ts
    simp only [vG, wG, List.length_append]
    omega
theorem mem_vA (x : Int) : ∀ l : List At, x ∈ vA l ↔ x ∈ occL (tA l)
  | [] => by simp [vA, tA, occL]
  | a :: l => by
    simp only [vA, tA, occL_app, List.mem_append, mem_vA x l, mem_uniq, List.not_mem_nil, false_or]
def addV (V out : List Int) (x : Int) : List Int := if x ∈ V ∨ x ∈ out then out else out ++ [x]
theorem mem_addV {V out : List Int} {x y : Int} (h : y ∈ V ∨ y ∈ out) : y ∈ V ∨ y ∈ addV V out x := by
  unfold addV
  split
  · exact h
  · exact h.imp id fun h => List.mem_append.2 (.inl h)
theorem mem_addV_self {V out : List Int} {x : Int} : x ∈ V ∨ x ∈ addV V out x := by
  unfold addV
  split
  · assumption
  · exact .inr (by simp)
theorem mem_foldV {V : List Int} {y : Int} : ∀ (l out : List Int), y ∈ V ∨ y ∈ out ∨ y ∈ l → y ∈ V ∨ y ∈ l.foldl (addV V) out
  | [], out, h => by simpa using h
  | x :: l, out, h => by
    rw [List.foldl_cons]
    apply mem_foldV l
    rcases h with h | h | h
    · exact .inl h
    · exact (mem_addV (.inr h)).imp id .inl
    · rcases List.mem_cons.1 h with rfl | h
      · exact mem_addV_self.imp id .inl
      · exact .inr (.inr h)
theorem foldV_uniq (V : List Int) : ∀ (xs l out : List Int), (uniq l xs).foldl (addV V) out = xs.foldl (addV V) (l.foldl (addV V) out)
  | [], l, out => rfl
  | x :: xs, l, out => by
    show (uniq (addU l x) xs).foldl (addV V) out = _
    rw [foldV_uniq V xs, List.foldl_cons]
    congr 1
    unfold addU
    split
    · rename_i h
      have := mem_foldV (V := V) l out (.inr (.inr h))
      rw [addV, if_pos this]
    · rw [List.foldl_append]
      rfl
theorem foldV_vG (V : List Int) : ∀ (l : List Gl) (out : List Int), (vG l).foldl (addV V) out = (occL (tGs l)).foldl (addV V) out
  | [], out => by simp [vG, tGs, occL]
  | a :: l, out => by
    simp only [vG, tGs, occL_app, List.foldl_append, foldV_uniq, List.foldl_nil, foldV_vG V l]
/-! ### the program's lists in closed form -/
theorem av_eq (k : List Int → Option (List Int)) : ∀ (l : List At) (out : List Int), out.length + wA l ≤ 1000000 → lf_scope_atomVars_L1 k l out = k (out ++ vA l)
  | [], out, _ => by rw [lf_scope_atomVars_L1]; simp [vA]
  | a :: l, out, hb => by
    have hu := uo_len a.ts
    simp only [wA] at hb
    rw [lf_scope_atomVars_L1, x_varsA_eq _ (by omega), Option.bind_some, appO_eq (by omega) (by omega), Option.bind_some, av_eq k l _ (by rw [List.length_append]; omega)]
    simp [vA]
theorem gv_eq (k : List Int → Option (List Int)) : ∀ (l : List Gl) (out : List Int), out.length + wG l ≤ 1000000 → lf_scope_goalVars_L1 k l out = k (out ++ vG l)
  | [], out, _ => by rw [lf_scope_goalVars_L1]; simp [vG]
  | a :: l, out, hb => by
    have hu := uo_len a.ts
    simp only [wG] at hb
    rw [lf_scope_goalVars_L1, x_varsG_eq _ (by omega), Option.bind_some, appO_eq (by omega) (by omega), Option.bind_some, gv_eq k l _ (by rw [List.length_append]; omega)]
    simp [vG]
theorem atomVars_eq (a b : List At) (ha : wA a ≤ 1000) (hb : wA b ≤ 1000) : lf_scope_atomVars [a, b] = some (vA (a ++ b)) := by
  have h1 := vA_len a
  rw [lf_scope_atomVars, lf_scope_atomVars_L0, av_eq _ _ _ (by simp; omega), lf_scope_atomVars_L0, av_eq _ _ _ (by simp; omega), lf_scope_atomVars_L0, vA_app]
  rfl
theorem goalVars_eq (a b : List Gl) (ha : wG a ≤ 1000) (hb : wG b ≤ 1000) : lf_scope_goalVars [a, b] = some (vG (a ++ b)) := by
  have h1 := vG_len a
  rw [lf_scope_goalVars, lf_scope_goalVars_L0, gv_eq _ _ _ (by simp; omega), lf_scope_goalVars_L0, gv_eq _ _ _ (by simp; omega), lf_scope_goalVars_L0, vG_app]
  rfl
theorem hv_L0 (k : List T → Option (List Int)) : ∀ (l : List At) (acc : List T), acc.length + wA l ≤ 1000000 → lf_constraintref15_headVars_L0 k l acc = k (acc ++ tA l)
  | [], acc, _ => by rw [lf_constraintref15_headVars_L0]; simp [tA]
  | a :: l, acc, h => by
    have h1 := len_wtL a.ts
    simp only [wA] at h
    rw [lf_constraintref15_headVars_L0, appO_eq (by omega) (by omega), Option.bind_some, hv_L0 k l _ (by rw [List.length_append]; omega)]
    simp [tA]
/-! ### declarations -/
theorem ixd_val (v : S_api_Decl) : ∀ (l : List S_api_Decl) (i : Nat), ∃ r, lf_slices_Index_api_Decl_api_Decl_L0 (some (-1)) v l i = some r ∧ decide (r ≥ (0 : Int)) = decide (v ∈ l)
  | [], i => ⟨-1, by rw [lf_slices_Index_api_Decl_api_Decl_L0], by simp⟩
  | d :: l, i => by
    rw [lf_slices_Index_api_Decl_api_Decl_L0]
    by_cases h : v = d
    · rw [decide_eq_true h, cond_true]
      exact ⟨_, rfl, by subst h; simp⟩
    · rw [decide_eq_false h, cond_false]
      obtain ⟨r, e1, e2⟩ := ixd_val v l (i + 1)
      exact ⟨r, e1, by rw [e2]; simp [h]⟩
theorem Declared_eq (ds : List S_api_Decl) (s : ByteArray) (n : Int) : lf_scope_Declared ds s n = some (decide ((⟨s, n⟩ : S_api_Decl) ∈ ds)) := by
  unfold lf_scope_Declared lf_slices_Contains_api_Decl_api_Decl lf_slices_Index_api_Decl_api_Decl
  obtain ⟨r, e1, e2⟩ := ixd_val ⟨s, n⟩ ds 0
  rw [e1, Option.bind_some, Option.bind_some, e2]
theorem ba_eq (a b : ByteArray) : (a.toList == b.toList) = decide (a = b) := by
  by_cases h : a = b
  · subst h; simp
  · rw [decide_eq_false h]
    simp only [beq_eq_false_iff_ne]
    intro e
    rw [ByteArray.toList_eq, ByteArray.toList_eq] at e
    exact h (ByteArray.ext (Array.toList_inj.1 e))
theorem refDeclared_L0 (s : ByteArray) (n : Int) : ∀ l : List S_api_Decl, lf_constraintref15_Declared_L0 (some false) n s l = some (decide ((⟨s, n⟩ : S_api_Decl) ∈ l))
  | [] => by rw [lf_constraintref15_Declared_L0]; simp
  | d :: l => by
    obtain ⟨a, b⟩ := d
    rw [lf_constraintref15_Declared_L0, refDeclared_L0 s n l, ba_eq]
    by_cases h : a = s
    · subst h
      by_cases h2 : b = n
      · subst h2; simp
      · have h3 : ¬ n = b := fun e => h2 e.symm
        rw [beq_false_of_ne h2]
        simp [h3]
    · have h3 : ¬ s = a := fun e => h e.symm
      simp [h, h3]
theorem refDeclared_eq (ds : List S_api_Decl) (s : ByteArray) (n : Int) : lf_constraintref15_Declared ds s n = some (decide ((⟨s, n⟩ : S_api_Decl) ∈ ds)) := refDeclared_L0 s n ds
end Go.Proofs.Ytgndcnknmkcacaa


namespace Go.Proofs.Ytgndcnknmkcacaa
set_option maxRecDepth 100000
open Go.RowKit

/-- The check raises what the reference returns. -/
def Rs (x : Option (Int ⊕ Unit)) (y : Option Int) : Prop := ∃ s, x = some s ∧ y = some (caughtV s) ∧ ∀ c, s = .inl c → c ≠ 0
theorem Rs.ok : Rs (some (.inr ())) (some 0) := ⟨_, rfl, rfl, fun c h => by cases h⟩
theorem Rs.err {e : Int} (he : e ≠ 0) : Rs (some (.inl e)) (some e) := ⟨_, rfl, rfl, fun c h => by cases h; exact he⟩
theorem Rs.need {ok bad : Bool} {e : Int} {f : Unit → Option (Int ⊕ Unit)} {k : Option Int} (he : e ≠ 0) (hb : bad = !ok) (h : ok = true → Rs (f ()) k) : Rs (bindX (lf_scope_need ok e) f) (bif bad then some e else k) := by
  subst hb
  cases ok with
  | true => exact h rfl
  | false => exact Rs.err he
theorem Rs.bind {x : Option (Int ⊕ Unit)} {y : Option Int} {f : Unit → Option (Int ⊕ Unit)} {k : Option Int} (h : Rs x y) (hk : Rs (f ()) k) : Rs (bindX x f) (y.bind fun r => bif r != 0 then some r else k) := by
  obtain ⟨s, rfl, rfl, hs⟩ := h
  cases s with
  | inr u => exact hk
  | inl c =>
    have hc := hs c rfl
    rw [Option.bind_some]
    simp only [caughtV]
    rw [show (c != 0) = true by simpa using hc]
    exact Rs.err hc
theorem ixf_val (s : ByteArray) : ∀ (l : List S_api_Decl) (i : Nat), ∃ r, lf_slices_IndexFunc_s4_L0 (some (-1)) s l i = some r ∧ decide (r ≥ (0 : Int)) = l.any fun d => d.f0_Name.toList == s.toList
  | [], i => ⟨-1, by rw [lf_slices_IndexFunc_s4_L0], by simp⟩
  | d :: l, i => by
    rw [lf_slices_IndexFunc_s4_L0, lf_scope_declared_1, Option.bind_some, List.any_cons]
    cases h : d.f0_Name.toList == s.toList with
    | true => exact ⟨_, rfl, by simp⟩
    | false =>
      obtain ⟨r, e1, e2⟩ := ixf_val s l (i + 1)
      exact ⟨r, e1, by rw [e2]; rfl⟩
theorem declare_val (k : Int → Option Int) (s : ByteArray) : ∀ (l : List S_api_Decl) (e : Int), lf_constraintref15_declare_L0 k s l e = k (bif l.any (fun d => d.f0_Name.toList == s.toList) then 9 else e)
  | [], e => by rw [lf_constraintref15_declare_L0]; rfl
  | d :: l, e => by
    rw [lf_constraintref15_declare_L0, List.any_cons]
    cases h : d.f0_Name.toList == s.toList with
    | true =>
      rw [cond_true, declare_val k s l 9]
      cases l.any (fun d => d.f0_Name.toList == s.toList) <;> rfl
    | false => rw [cond_false, declare_val k s l e]; rfl
theorem declared_same (ds : List S_api_Decl) (s : ByteArray) (n : Int) : Rs (lf_scope_declared ds s n) (lf_constraintref15_declare ds s n) := by
  rw [lf_scope_declared, lf_slices_ContainsFunc_s3, lf_slices_IndexFunc_s4, lf_constraintref15_declare, declare_val, Declared_eq, refDeclared_eq]
  obtain ⟨r, e1, e2⟩ := ixf_val s ds 0
  rw [e1, Option.bind_some, Option.bind_some, e2, Option.bind_some, Option.bind_some]
  cases h : ds.any (fun d => d.f0_Name.toList == s.toList) with
  | false =>
    have h2 : ¬ (⟨s, n⟩ : S_api_Decl) ∈ ds := fun hm => by
      have := List.any_eq_false.1 h _ hm
      simp at this
    rw [decide_eq_false h2]
    exact Rs.err (by decide)
  | true =>
    by_cases h2 : (⟨s, n⟩ : S_api_Decl) ∈ ds
    · rw [decide_eq_true h2]; exact Rs.ok
    · rw [decide_eq_false h2]; exact Rs.err (by decide)
theorem calls_same {k : Option (Int ⊕ Unit)} {k' : Option Int} (hk : Rs k k') (ds : List S_api_Decl) : ∀ l : List Gl, Rs (lf_scope_calls_L0 k ds l) (lf_constraintref15_calls_L0 k' ds l)
  | [] => by rw [lf_scope_calls_L0, lf_constraintref15_calls_L0]; exact hk
  | g :: l => by
    rw [lf_scope_calls_L0, lf_constraintref15_calls_L0]
    by_cases h : g.op = 0
    · rw [show (g.op == (0 : Int)) = true by simpa using h, show (g.op != (0 : Int)) = false by simpa using h]
      exact Rs.bind (declared_same _ _ _) (calls_same hk ds l)
    · rw [show (g.op == (0 : Int)) = false by simpa using h, show (g.op != (0 : Int)) = true by simpa using h]
      exact calls_same hk ds l
theorem test_val (n : Int) : ∃ b, lf_scope_test n = some b ∧ lf_constraintref15_Test n = some b := by
  unfold lf_scope_test lf_constraintref15_Test
  cases decide (n ≥ (5 : Int)) <;> exact ⟨_, rfl, rfl⟩
theorem goalVars_one (a : List Gl) (ha : wG a ≤ 1000) : lf_scope_goalVars [a] = some (vG a) := by
  rw [lf_scope_goalVars, lf_scope_goalVars_L0, gv_eq _ _ _ (by simp; omega), lf_scope_goalVars_L0]
  rfl
end Go.Proofs.Ytgndcnknmkcacaa


namespace Go.Proofs.Ytgndcnknmkcacaa
set_option maxRecDepth 100000
open Go.RowKit

mutual
theorem occT_nn : ∀ t : T, formT t = true → ∀ x ∈ occT t, 0 ≤ x
  | .mk k i s ar, h, x, hx => by
    simp only [occT] at hx
    split at hx
    · rename_i hk
      rw [formT_1 (t := .mk k i s ar) hk] at h
      have := (of_decide_eq_true h).1
      rw [List.mem_singleton.1 hx]
      exact this
    · split at hx
      · rename_i hk
        rw [formT_2 (t := .mk k i s ar) hk, Bool.and_eq_true] at h
        exact occL_nn ar h.2 x hx
      · cases hx
theorem occL_nn : ∀ ts : List T, formL ts = true → ∀ x ∈ occL ts, 0 ≤ x
  | [], _, x, hx => by simp [occL] at hx
  | t :: ts, h, x, hx => by
    simp only [formL, Bool.and_eq_true] at h
    simp only [occL, List.mem_append] at hx
    exact hx.elim (occT_nn t h.1 x) (occL_nn ts h.2 x)
end
/-- i, i + 1, .. -/
def iot (i : Nat) : Nat → List Int
  | 0 => []
  | n + 1 => (i : Int) :: iot (i + 1) n
theorem iot_len : ∀ n i : Nat, (iot i n).length = n
  | 0, _ => rfl
  | n + 1, i => by simp [iot, iot_len n]
theorem iot_snoc : ∀ n i : Nat, iot i (n + 1) = iot i n ++ [((i + n : Nat) : Int)]
  | 0, i => rfl
  | n + 1, i => by
    rw [iot, iot_snoc n (i + 1), iot]
    simp only [List.cons_append]
    congr 3
    omega
theorem mem_iot (x : Int) : ∀ n i : Nat, x ∈ iot i n ↔ (i : Int) ≤ x ∧ x < ((i + n : Nat) : Int)
  | 0, i => by simp [iot]
  | n + 1, i => by
    rw [iot, List.mem_cons, mem_iot x n (i + 1)]
    omega
theorem uniq_pre : ∀ (xs l : List Int), ∃ r, uniq l xs = l ++ r
  | [], l => ⟨[], by simp [uniq_nil]⟩
  | x :: xs, l => by
    show ∃ r, uniq (addU l x) xs = l ++ r
    obtain ⟨r, e⟩ := uniq_pre xs (addU l x)
    rw [e]
    unfold addU
    split
    · exact ⟨r, rfl⟩
    · exact ⟨[x] ++ r, by simp⟩
theorem cr_vars (k : Int → Option (Int ⊕ Unit)) : ∀ (G : List Int) (n : Nat), n + G.length ≤ 1000000 → (∀ x ∈ G, 0 ≤ x) → (lf_scope_CheckRule_1_L2 k G n = some (.inl 2) ∧ ∃ a x r, uniq (iot 0 n) G = iot 0 a ++ (x :: r) ∧ x ≠ (a : Int)) ∨ ∃ m : Nat, m ≤ n + G.length ∧ lf_scope_CheckRule_1_L2 k G n = k m ∧ uniq (iot 0 n) G = iot 0 m
  | [], n, _, _ => .inr ⟨n, by simp, by rw [lf_scope_CheckRule_1_L2], by simp [uniq_nil]⟩
  | x :: G, n, hb, h => by
    simp only [List.length_cons] at hb
    have h0 := h x (List.mem_cons_self ..)
    have hG : ∀ y ∈ G, 0 ≤ y := fun y hy => h y (List.mem_cons_of_mem _ hy)
    rw [lf_scope_CheckRule_1_L2]
    show (_ ∧ ∃ a y r, uniq (addU (iot 0 n) x) G = _ ∧ _) ∨ ∃ m : Nat, _ ∧ _ ∧ uniq (addU (iot 0 n) x) G = _
    by_cases h1 : x ≤ (n : Int)
    · rw [decide_eq_true h1]
      by_cases h2 : x = (n : Int)
      · have hm : ¬ x ∈ iot 0 n := by rw [mem_iot]; omega
        have e : addU (iot 0 n) x = iot 0 (n + 1) := by rw [addU, if_neg hm, iot_snoc, h2, Nat.zero_add]
        rw [e, show (x == (n : Int)) = true by simpa using h2, wr_eq (by omega)]
        rcases cr_vars k G (n + 1) (by omega) hG with ⟨a1, a2⟩ | ⟨m, m1, m2, m3⟩
        · exact .inl ⟨a1, a2⟩
        · exact .inr ⟨m, by simp only [List.length_cons]; omega, m2, m3⟩
      · have hm : x ∈ iot 0 n := by rw [mem_iot]; omega
        have e : addU (iot 0 n) x = iot 0 n := by rw [addU, if_pos hm]
        rw [e, show (x == (n : Int)) = false by simpa using h2]
        rcases cr_vars k G n (by omega) hG with ⟨a1, a2⟩ | ⟨m, m1, m2, m3⟩
        · exact .inl ⟨a1, a2⟩
        · exact .inr ⟨m, by simp only [List.length_cons]; omega, m2, m3⟩
    · rw [decide_eq_false h1]
      have hm : ¬ x ∈ iot 0 n := by rw [mem_iot]; omega
      obtain ⟨r, e⟩ := uniq_pre G (addU (iot 0 n) x)
      refine .inl ⟨rfl, n, x, r, ?_, by omega⟩
      rw [e, addU, if_neg hm]
      simp
theorem rr_ok (k : Option Int) : ∀ (n i : Nat), lf_constraintref15_CheckRule_L2 k (iot i n) i = k
  | 0, i => by rw [iot, lf_constraintref15_CheckRule_L2]
  | n + 1, i => by
    rw [iot, lf_constraintref15_CheckRule_L2, bne_self_eq_false, cond_false]
    exact rr_ok k n (i + 1)
theorem rr_bad (k : Option Int) (x : Int) (r : List Int) : ∀ (n i : Nat), x ≠ ((i + n : Nat) : Int) → lf_constraintref15_CheckRule_L2 k (iot i n ++ (x :: r)) i = some 2
  | 0, i, h => by
    rw [iot, List.nil_append, lf_constraintref15_CheckRule_L2, show (x != (i : Int)) = true by simpa using h]
    rfl
  | n + 1, i, h => by
    rw [iot, List.cons_append, lf_constraintref15_CheckRule_L2, bne_self_eq_false, cond_false]
    exact rr_bad k x r n (i + 1) (by omega)
theorem foldV_vA (V : List Int) : ∀ (l : List At) (out : List Int), (vA l).foldl (addV V) out = (occL (tA l)).foldl (addV V) out
  | [], out => by simp [vA, tA, occL]
  | a :: l, out => by
    simp only [vA, tA, occL_app, List.foldl_append, foldV_uniq, List.foldl_nil, foldV_vA V l]
theorem addV_nil : addV [] = addU := by
  funext l x
  simp [addV, addU]
theorem uniq_vars (a : List At) (g : List Gl) : uniq [] (vA a ++ vG g) = uniq [] (occL (tA a ++ tGs g)) := by
  have h1 := foldV_vA [] a []
  have h2 := foldV_vG [] g (uniq [] (vA a))
  rw [addV_nil] at h1 h2
  rw [uniq_app, occL_app, uniq_app]
  show (vG g).foldl addU (uniq [] (vA a)) = (occL (tGs g)).foldl addU (uniq [] (occL (tA a)))
  rw [h2]
  congr 1

/-! ### the rule -/
theorem avs_eq (k : List Int → Option (List Int)) : ∀ (l : List At) (out : List Int), out.length + wA l ≤ 1000000 → lf_scope_atomVars_s1_L1 k l out = k (out ++ vA l)
  | [], out, _ => by rw [lf_scope_atomVars_s1_L1]; simp [vA]
  | a :: l, out, hb => by
    have hu := uo_len a.ts
    simp only [wA] at hb
    rw [lf_scope_atomVars_s1_L1, x_varsA_eq _ (by omega), Option.bind_some, appO_eq (by omega) (by omega), Option.bind_some, avs_eq k l _ (by rw [List.length_append]; omega)]
    simp [vA]
theorem atomVarsS_eq (a b : List At) (ha : wA a ≤ 1000) (hb : wA b ≤ 1000) : lf_scope_atomVars_s1 [a, b] = some (vA (a ++ b)) := by
  have h1 := vA_len a
  rw [lf_scope_atomVars_s1, lf_scope_atomVars_s1_L0, avs_eq _ _ _ (by simp; omega), lf_scope_atomVars_s1_L0, avs_eq _ _ _ (by simp; omega), lf_scope_atomVars_s1_L0, vA_app]
  rfl
theorem s9 {k : Option (Int ⊕ Unit)} {k' : Option Int} : ∀ l : List At, wA l ≤ 1000 → ((∀ a ∈ l, rightA a = true) → Rs k k') → Rs (lf_scope_CheckRule_1_L9 k l) (lf_constraintref15_CheckRule_L0 k' l)
  | [], _, hk => by rw [lf_scope_CheckRule_1_L9, lf_constraintref15_CheckRule_L0]; exact hk fun a h => by cases h
  | a :: l, h, hk => by
    simp only [wA] at h
    rw [lf_scope_CheckRule_1_L9, lf_constraintref15_CheckRule_L0, x_rightA_eq _ (by omega), Option.bind_some, Option.bind_some]
    exact Rs.need (by decide) rfl fun ha => s9 l (by omega) fun hl => hk fun x hx => (List.mem_cons.1 hx).elim (fun e => e ▸ ha) (hl x)
theorem s8 {k : Option (Int ⊕ Unit)} {k' : Option Int} : ∀ l : List Gl, wG l ≤ 1000 → ((∀ a ∈ l, rightG a = true) → Rs k k') → Rs (lf_scope_CheckRule_1_L8 k l) (lf_constraintref15_CheckRule_L1 k' l)
  | [], _, hk => by rw [lf_scope_CheckRule_1_L8, lf_constraintref15_CheckRule_L1]; exact hk fun a h => by cases h
  | a :: l, h, hk => by
    simp only [wG] at h
    rw [lf_scope_CheckRule_1_L8, lf_constraintref15_CheckRule_L1, x_rightG_eq _ (by omega), Option.bind_some, Option.bind_some]
    exact Rs.need (by decide) rfl fun ha => s8 l (by omega) fun hl => hk fun x hx => (List.mem_cons.1 hx).elim (fun e => e ▸ ha) (hl x)
theorem r0_app (k : Option Int) : ∀ a b : List At, lf_constraintref15_CheckRule_L0 k (a ++ b) = lf_constraintref15_CheckRule_L0 (lf_constraintref15_CheckRule_L0 k b) a
  | [], b => by rw [List.nil_append, lf_constraintref15_CheckRule_L0.eq_1 (lf_constraintref15_CheckRule_L0 k b)]
  | x :: a, b => by rw [List.cons_append, lf_constraintref15_CheckRule_L0, lf_constraintref15_CheckRule_L0, r0_app k a b]
theorem r1_app (k : Option Int) : ∀ a b : List Gl, lf_constraintref15_CheckRule_L1 k (a ++ b) = lf_constraintref15_CheckRule_L1 (lf_constraintref15_CheckRule_L1 k b) a
  | [], b => by rw [List.nil_append, lf_constraintref15_CheckRule_L1.eq_1 (lf_constraintref15_CheckRule_L1 k b)]
  | x :: a, b => by rw [List.cons_append, lf_constraintref15_CheckRule_L1, lf_constraintref15_CheckRule_L1, r1_app k a b]
theorem m0_app (k : Option Int) (ds : List S_api_Decl) : ∀ a b : List At, lf_constraintref15_meaning_L0 k ds (a ++ b) = lf_constraintref15_meaning_L0 (lf_constraintref15_meaning_L0 k ds b) ds a
  | [], b => by rw [List.nil_append, lf_constraintref15_meaning_L0.eq_1 (lf_constraintref15_meaning_L0 k ds b)]
  | x :: a, b => by rw [List.cons_append, lf_constraintref15_meaning_L0, lf_constraintref15_meaning_L0, m0_app k ds a b]
theorem rc_app (k : Option Int) (ds : List S_api_Decl) : ∀ a b : List Gl, lf_constraintref15_calls_L0 k ds (a ++ b) = lf_constraintref15_calls_L0 (lf_constraintref15_calls_L0 k ds b) ds a
  | [], b => by rw [List.nil_append, lf_constraintref15_calls_L0.eq_1 (lf_constraintref15_calls_L0 k ds b)]
  | x :: a, b => by rw [List.cons_append, lf_constraintref15_calls_L0, lf_constraintref15_calls_L0, rc_app k ds a b]
theorem bx_assoc {a : Option (Int ⊕ Unit)} {g f : Unit → Option (Int ⊕ Unit)} : bindX (bindX a g) f = bindX a fun u => bindX (g u) f := by
  cases a with
  | none => rfl
  | some s => cases s <;> rfl
theorem calls_bind (k : Option (Int ⊕ Unit)) (ds : List S_api_Decl) : ∀ l : List Gl, lf_scope_calls_L0 k ds l = bindX (lf_scope_calls_L0 (some (.inr ())) ds l) fun _ => k
  | [] => by rw [lf_scope_calls_L0, lf_scope_calls_L0]; rfl
  | g :: l => by
    rw [lf_scope_calls_L0, lf_scope_calls_L0]
    cases g.op == (0 : Int) with
    | true => rw [cond_true, cond_true, bx_assoc]; congr 1; funext u; exact calls_bind k ds l
    | false => rw [cond_false, cond_false]; exact calls_bind k ds l
theorem s7 {k : Option (Int ⊕ Unit)} {k' : Option Int} (hk : Rs k k') (ds : List S_api_Decl) : ∀ l : List At, Rs (lf_scope_CheckRule_1_L7 k ds l) (lf_constraintref15_meaning_L0 k' ds l)
  | [] => by rw [lf_scope_CheckRule_1_L7, lf_constraintref15_meaning_L0]; exact hk
  | a :: l => by
    rw [lf_scope_CheckRule_1_L7, lf_constraintref15_meaning_L0]
    exact Rs.bind (declared_same _ _ _) (s7 hk ds l)
theorem s5 {k : Option (Int ⊕ Unit)} {k' : Option Int} (hk : Rs k k') : ∀ l : List Gl, Rs (lf_scope_CheckRule_1_L5 k l) (lf_constraintref15_meaning_L2 k' l)
  | [] => by rw [lf_scope_CheckRule_1_L5, lf_constraintref15_meaning_L2]; exact hk
  | g :: l => by
    obtain ⟨b, e1, e2⟩ := test_val g.op
    rw [lf_scope_CheckRule_1_L5, lf_constraintref15_meaning_L2, e1, e2, Option.bind_some, Option.bind_some]
    exact Rs.need (by decide) (by simp) fun _ => s5 hk l
theorem s4 {k : Option (Int ⊕ Unit)} {k' : Option Int} (hk : Rs k k') : ∀ l : List Gl, Rs (lf_scope_CheckRule_1_L4 k l) (lf_constraintref15_meaning_L1 k' l)
  | [] => by rw [lf_scope_CheckRule_1_L4, lf_constraintref15_meaning_L1]; exact hk
  | g :: l => by
    obtain ⟨b, e1, e2⟩ := test_val g.op
    rw [lf_scope_CheckRule_1_L4, lf_constraintref15_meaning_L1, e1, e2, Option.bind_some, Option.bind_some]
    cases b with
    | true => exact s4 hk l
    | false => exact Rs.need (by decide) rfl fun _ => s4 hk l
theorem ixi_val (v : Int) : ∀ (l : List Int) (i : Nat), ∃ r, lf_slices_Index_int_int_L0 (some (-1)) v l i = some r ∧ decide (r ≥ (0 : Int)) = decide (v ∈ l)
  | [], i => ⟨-1, by rw [lf_slices_Index_int_int_L0], by simp⟩
  | d :: l, i => by
    rw [lf_slices_Index_int_int_L0]
    by_cases h : v = d
    · rw [show (v == d) = true by simpa using h, cond_true]
      exact ⟨_, rfl, by subst h; simp⟩
    · rw [show (v == d) = false by simpa using h, cond_false]
      obtain ⟨r, e1, e2⟩ := ixi_val v l (i + 1)
      exact ⟨r, e1, by rw [e2]; simp [h]⟩
theorem s6 {k : Option (Int ⊕ Unit)} {k' : Option Int} (hk : Rs k k') (V W : List Int) (hV : ∀ x, x ∈ V ↔ x ∈ W) : ∀ l : List Int, Rs (lf_scope_CheckRule_1_L6 k V l) (lf_constraintref15_meaning_L4 k' W l)
  | [] => by rw [lf_scope_CheckRule_1_L6, lf_constraintref15_meaning_L4]; exact hk
  | x :: l => by
    obtain ⟨r, e1, e2⟩ := ixi_val x V 0
    rw [lf_scope_CheckRule_1_L6, lf_constraintref15_meaning_L4, lf_slices_Contains_int_int, lf_slices_Index_int_int, e1, in_lf]
    simp only [Option.bind_some]
    rw [e2]
    refine Rs.need (by decide) ?_ fun _ => s6 hk V W hV l
    simp [hV x]
theorem c6_app (k : Option (Int ⊕ Unit)) (V : List Int) : ∀ a b : List Int, lf_scope_CheckRule_1_L6 k V (a ++ b) = lf_scope_CheckRule_1_L6 (lf_scope_CheckRule_1_L6 k V b) V a
  | [], b => by rw [List.nil_append, lf_scope_CheckRule_1_L6.eq_1 (lf_scope_CheckRule_1_L6 k V b)]
  | x :: a, b => by rw [List.cons_append, lf_scope_CheckRule_1_L6, lf_scope_CheckRule_1_L6, c6_app k V a b]
theorem s6g {k : Option (Int ⊕ Unit)} {k' : Option Int} (hk : Rs k k') (fuel : Nat) (hf : 1048577 ≤ fuel) (V W : List Int) (hV : ∀ x, x ∈ V ↔ x ∈ W) : ∀ l : List Gl, wG l ≤ 1000 → Rs (lf_scope_CheckRule_1_L6 k V (vG l)) (lf_constraintref15_meaning_L3 k' fuel W l)
  | [], _ => by rw [lf_constraintref15_meaning_L3, vG, lf_scope_CheckRule_1_L6]; exact hk
  | g :: l, h => by
    simp only [wG] at h
    rw [lf_constraintref15_meaning_L3, vG, c6_app, lf_constraintref03_GoalVars, varsOf_lf fuel _ (by omega) (by omega), Option.bind_some, Option.bind_some]
    exact s6 (s6g hk fuel hf V W hV l (by omega)) V W hV _
end Go.Proofs.Ytgndcnknmkcacaa


namespace Go.Proofs.Ytgndcnknmkcacaa
set_option maxRecDepth 100000
open Go.RowKit

theorem isNameR_eq (s : ByteArray) (h : s.size ≤ 9223372036854775807) : x_isNameR s = some (isName s) := if_pos h
theorem bind_self (x : Option Int) : (x.bind fun a => some a) = x := by cases x <;> rfl
theorem rightL_A {a : At} (h : rightA a = true) : formL a.ts = true := by
  simp only [rightA, rightL, Bool.and_eq_true] at h
  exact h.2.1.1
theorem rightL_G {g : Gl} (h : rightG g = true) : formL g.ts = true := by
  unfold rightG at h
  split at h
  · exact rightL_A (a := ⟨g.n, g.ts⟩) h
  · simp only [rightL, Bool.and_eq_true] at h
    exact h.2.1.1
theorem vA_nn : ∀ l : List At, (∀ a ∈ l, rightA a = true) → ∀ x ∈ vA l, 0 ≤ x
  | [], _, x, hx => by cases hx
  | a :: l, h, x, hx => by
    simp only [vA, List.mem_append, mem_uniq, List.not_mem_nil, false_or] at hx
    exact hx.elim (occL_nn _ (rightL_A (h a (List.mem_cons_self ..))) x) (vA_nn l (fun b hb => h b (List.mem_cons_of_mem _ hb)) x)
theorem vG_nn : ∀ l : List Gl, (∀ a ∈ l, rightG a = true) → ∀ x ∈ vG l, 0 ≤ x
  | [], _, x, hx => by cases hx
  | a :: l, h, x, hx => by
    simp only [vG, List.mem_append, mem_uniq, List.not_mem_nil, false_or] at hx
    exact hx.elim (occL_nn _ (rightL_G (h a (List.mem_cons_self ..))) x) (vG_nn l (fun b hb => h b (List.mem_cons_of_mem _ hb)) x)
theorem vv_L0 (k : List T → Option (List Int)) : ∀ (l : List At) (acc : List T), acc.length + wA l ≤ 1000000 → lf_constraintref15_Vars_L0 k l acc = k (acc ++ tA l)
  | [], acc, _ => by rw [lf_constraintref15_Vars_L0]; simp [tA]
  | a :: l, acc, h => by
    have h1 := len_wtL a.ts
    simp only [wA] at h
    rw [lf_constraintref15_Vars_L0, appO_eq (by omega) (by omega), Option.bind_some, vv_L0 k l _ (by rw [List.length_append]; omega)]
    simp [tA]
theorem vv_L1 (k : List T → Option (List Int)) : ∀ (l : List Gl) (acc : List T), acc.length + wG l ≤ 1000000 → lf_constraintref15_Vars_L1 k l acc = k (acc ++ tGs l)
  | [], acc, _ => by rw [lf_constraintref15_Vars_L1]; simp [tGs]
  | a :: l, acc, h => by
    have h1 := len_wtL a.ts
    simp only [wG] at h
    rw [lf_constraintref15_Vars_L1, appO_eq (by omega) (by omega), Option.bind_some, vv_L1 k l _ (by rw [List.length_append]; omega)]
    simp [tGs]
theorem wA_app : ∀ a b : List At, wA (a ++ b) = wA a + wA b
  | [], b => by simp [wA]
  | x :: a, b => by simp only [List.cons_append, wA, wA_app a b]; omega
theorem wG_app : ∀ a b : List Gl, wG (a ++ b) = wG a + wG b
  | [], b => by simp [wG]
  | x :: a, b => by simp only [List.cons_append, wG, wG_app a b]; omega
theorem heads_eq (r : S_api_Rule) (h : Bd r) : lf_constraintref15_heads r = some (r.f1_Keep ++ r.f2_Remove) := by
  have := h.a; have := h.b
  have l1 := wA_len r.f1_Keep
  have l2 := wA_len r.f2_Remove
  rw [lf_constraintref15_heads, appO_eq (by simp; omega) (by simp; omega), Option.bind_some, appO_eq (by simp; omega) (by simp; omega), Option.bind_some]
  rfl
theorem goals_eq (r : S_api_Rule) (h : Bd r) : lf_constraintref15_goals r = some (r.f3_Guard ++ r.f4_Body) := by
  have := h.c; have := h.d
  have l1 := wG_len r.f3_Guard
  have l2 := wG_len r.f4_Body
  rw [lf_constraintref15_goals, appO_eq (by simp; omega) (by simp; omega), Option.bind_some, appO_eq (by simp; omega) (by simp; omega), Option.bind_some]
  rfl
theorem headVars_eq (fuel : Nat) (hf : 1048577 ≤ fuel) (r : S_api_Rule) (h : Bd r) : lf_constraintref15_headVars fuel r = some (uniq [] (occL (tA (r.f1_Keep ++ r.f2_Remove)))) := by
  have := h.a; have := h.b
  have w := wA_app r.f1_Keep r.f2_Remove
  have t := tA_wt (r.f1_Keep ++ r.f2_Remove)
  rw [lf_constraintref15_headVars, heads_eq r h, Option.bind_some, hv_L0 _ _ _ (by simp only [List.length_nil]; omega), List.nil_append, varsOf_lf fuel _ (by omega) (by omega)]
  rfl
theorem vars_eq (fuel : Nat) (hf : 1048577 ≤ fuel) (r : S_api_Rule) (h : Bd r) : lf_constraintref15_Vars fuel r = some (uniq [] (vA (r.f1_Keep ++ r.f2_Remove) ++ vG (r.f3_Guard ++ r.f4_Body))) := by
  have := h.a; have := h.b; have := h.c; have := h.d
  have w := wA_app r.f1_Keep r.f2_Remove
  have w' := wG_app r.f3_Guard r.f4_Body
  have t := tA_wt (r.f1_Keep ++ r.f2_Remove)
  have t' := tGs_wt (r.f3_Guard ++ r.f4_Body)
  have l := len_wtL (tA (r.f1_Keep ++ r.f2_Remove))
  rw [lf_constraintref15_Vars, heads_eq r h, Option.bind_some, vv_L0 _ _ _ (by simp only [List.length_nil]; omega), List.nil_append, goals_eq r h, Option.bind_some, vv_L1 _ _ _ (by omega), varsOf_lf fuel _ (by rw [wtL_app]; omega) (by rw [wtL_app]; omega), Option.bind_some, uniq_vars]
theorem meaning_same (fuel : Nat) (hf : 1048577 ≤ fuel) (ds : List S_api_Decl) (r : S_api_Rule) (h : Bd r) : Rs (lf_scope_CheckRule_1_L3 (bindX (lf_scope_calls ds r.f3_Guard) fun _ =>
      bindX (lf_scope_calls ds r.f4_Body) fun _ =>
      lf_scope_CheckRule_1_L4 (lf_scope_CheckRule_1_L5 ((lf_scope_atomVars [r.f1_Keep, r.f2_Remove]).bind fun r_18 =>
      (lf_scope_goalVars [r.f3_Guard]).bind fun r_19 =>
      lf_scope_CheckRule_1_L6 (some (.inr ())) r_18 r_19) r.f4_Body) r.f3_Guard) r ds (2 - 0 : Int).toNat 0) (lf_constraintref15_meaning fuel ds r) := by
  rw [lf_constraintref15_meaning, heads_eq r h, goals_eq r h, headVars_eq fuel hf r h, atomVars_eq _ _ h.a h.b, goalVars_one _ h.c]
  simp only [Option.bind_some]
  rw [m0_app]
  refine (?_ : Rs (lf_scope_CheckRule_1_L7 (lf_scope_CheckRule_1_L7 _ ds r.f2_Remove) ds r.f1_Keep) _)
  refine s7 (s7 ?_ ds _) ds _
  rw [← bx_assoc]
  refine Rs.bind ?_ (s4 (s5 (s6g Rs.ok fuel hf _ _ (fun x => ?_) _ h.c) _) _)
  · rw [lf_constraintref15_calls, rc_app, lf_scope_calls, lf_scope_calls, ← calls_bind]
    exact calls_same (calls_same Rs.ok ds _) ds _
  · simp [mem_vA, mem_uniq]
theorem rule_same (fuel : Nat) (hf : 1048577 ≤ fuel) (ds : List S_api_Decl) (r : S_api_Rule) (h : Bd r) (hs : r.f0_Name.size ≤ 9223372036854775807) : Rs (lf_scope_CheckRule_1 r ds) (lf_constraintref15_CheckRule fuel ds r) := by
  have ha := h.a; have hb := h.b; have hc := h.c; have hd := h.d
  have l1 := wA_len r.f1_Keep
  have l2 := wA_len r.f2_Remove
  have w := wA_app r.f1_Keep r.f2_Remove
  have w' := wG_app r.f3_Guard r.f4_Body
  have u1 := vA_len (r.f1_Keep ++ r.f2_Remove)
  have u2 := vG_len (r.f3_Guard ++ r.f4_Body)
  have hM := meaning_same fuel hf ds r h
  rw [lf_scope_CheckRule_1, lf_constraintref15_CheckRule, heads_eq r h, goals_eq r h, vars_eq fuel hf r h, atomVarsS_eq _ _ ha hb, goalVars_eq _ _ hc hd]
  simp only [Option.bind_some]
  rw [appO_eq (by omega) (by omega), Option.bind_some, lf_scope_CheckRule_1_J0, wr_eq (by omega)]
  have hlen : ((r.f1_Keep ++ r.f2_Remove).length : Int) = (r.f1_Keep.length : Int) + (r.f2_Remove.length : Int) := by simp
  rw [hlen]
  by_cases h1 : (r.f1_Keep.length : Int) + (r.f2_Remove.length : Int) > 0
  · rw [decide_eq_true h1, cond_true, show ((r.f1_Keep.length : Int) + (r.f2_Remove.length : Int) == (0 : Int)) = false by simp only [beq_eq_false_iff_ne]; omega, cond_false]
    by_cases h2 : (r.f1_Keep.length : Int) + (r.f2_Remove.length : Int) ≤ 4
    · rw [decide_eq_true h2, cond_true, decide_eq_false (p := (r.f1_Keep.length : Int) + (r.f2_Remove.length : Int) > 4) (by omega), cond_false]
      by_cases h3 : (r.f3_Guard.length : Int) ≤ 12
      · rw [decide_eq_true h3, cond_true, decide_eq_false (p := (r.f3_Guard.length : Int) > 12) (by omega), cond_false]
        refine Rs.need (by decide) ?_ fun _ => ?_
        · by_cases h4 : (r.f4_Body.length : Int) ≤ 12
          · rw [decide_eq_true h4, decide_eq_false (by omega)]; rfl
          · rw [decide_eq_false h4, decide_eq_true (by omega)]; rfl
        · rw [r0_app, r1_app]
          refine (s9 _ ha fun q1 => s9 _ hb fun q2 => ?_ : Rs (lf_scope_CheckRule_1_L9 (lf_scope_CheckRule_1_L9 _ r.f2_Remove) r.f1_Keep) _)
          refine (s8 _ hc fun q3 => s8 _ hd fun q4 => ?_ : Rs (lf_scope_CheckRule_1_L8 (lf_scope_CheckRule_1_L8 _ r.f4_Body) r.f3_Guard) _)
          have nn : ∀ x ∈ vA (r.f1_Keep ++ r.f2_Remove) ++ vG (r.f3_Guard ++ r.f4_Body), 0 ≤ x := fun x hx => (List.mem_append.1 hx).elim
            (vA_nn _ (fun a ha => (List.mem_append.1 ha).elim (q1 a) (q2 a)) x) (vG_nn _ (fun a ha => (List.mem_append.1 ha).elim (q3 a) (q4 a)) x)
          refine (?_ : Rs (lf_scope_CheckRule_1_L2 _ _ ((0 : Nat) : Int)) _)
          rcases cr_vars _ _ 0 (by rw [List.length_append]; omega) nn with ⟨e, a, x, t, e2, e3⟩ | ⟨m, m1, e, e2⟩
          · rw [e, show ([] : List Int) = iot 0 0 from rfl, e2, rr_bad _ _ _ _ _ (by simpa using e3)]
            exact Rs.err (by decide)
          · rw [e, show ([] : List Int) = iot 0 0 from rfl, e2, rr_ok, iot_len]
            refine Rs.need (by decide) (by rfl) fun _ => ?_
            rw [lf_scope_CheckRule_1_J1]
            cases r.f0_Name.toList == (⟨#[]⟩ : ByteArray).toList with
            | true =>
              rw [cond_true, Bool.not_true, cond_false, bind_self]
              exact hM
            | false =>
              rw [cond_false, Bool.not_false, cond_true, x_isName_eq _ trivial, isNameR_eq _ hs, Option.bind_some, Option.bind_some]
              refine Rs.need (by decide) rfl fun _ => ?_
              rw [bind_self]
              exact hM
      · rw [decide_eq_false h3, cond_false, decide_eq_true (p := (r.f3_Guard.length : Int) > 12) (by omega), cond_true]
        exact Rs.err (by decide)
    · rw [decide_eq_false h2, cond_false, decide_eq_true (p := (r.f1_Keep.length : Int) + (r.f2_Remove.length : Int) > 4) (by omega), cond_true]
      exact Rs.err (by decide)
  · rw [decide_eq_false h1, cond_false, show ((r.f1_Keep.length : Int) + (r.f2_Remove.length : Int) == (0 : Int)) = true by simp only [beq_iff_eq]; omega, cond_true]
    exact Rs.err (by decide)
end Go.Proofs.Ytgndcnknmkcacaa


namespace Go.Proofs.Ytgndcnknmkcacaa
set_option maxRecDepth 100000
open Go.RowKit

def Rp (x : Option (Int ⊕ Unit)) (y : Option (Int × Int)) (K : Option (Int × Int)) : Prop := (∃ e, e ≠ 0 ∧ x = some (.inl e) ∧ y = some (-1, e)) ∨ (x = some (.inr ()) ∧ y = K)
theorem Rp.need {ok bad : Bool} {e : Int} {f : Unit → Option (Int ⊕ Unit)} {k K : Option (Int × Int)} (he : e ≠ 0) (hb : bad = !ok) (h : ok = true → Rp (f ()) k K) : Rp (bindX (lf_scope_need ok e) f) (bif bad then some (-1, e) else k) K := by
  subst hb
  cases ok with
  | true => exact h rfl
  | false => exact .inl ⟨e, he, rfl, rfl⟩
end Go.Proofs.Ytgndcnknmkcacaa


namespace Go.Proofs.Ytgndcnknmkcacaa
set_option maxRecDepth 100000
open Go.RowKit

section
variable {P : Program} {o : Oper} {ρ : Operand → Option D}
end
/-- The rest of numbers without sign. -/
def remU (a b : Int) : Option Int := if b = 0 then none else some (Int.tmod a b)
theorem u64_range {n : Int} (h : IntKind.u64.wrap n = n) : 0 ≤ n ∧ n < 18446744073709551616 := by
  simp [IntKind.wrap, IntKind.bits, IntKind.signed] at h
  omega
theorem s_remU {P : Program} {o : Oper} {ρ : Operand → Option D} {t t' : TypeId} {x y : Operand} {a b r : Int} (ho : o.op = .binOp .rem t x y t') (hx : ρ x = some (.int .u64 a)) (hy : ρ y = some (.int .u64 b)) (hr : remU a b = some r) : StepD P o ρ (.int .u64 r) := stepD_of fun p ac w h => by
  have h1 := h x (by rw [ho]; simp [Op.operands]) _ hx
  have h2 := h y (by rw [ho]; simp [Op.operands]) _ hy
  simp only [Rep] at h1 h2
  unfold remU at hr
  split at hr
  · cases hr
  · rename_i hb
    obtain rfl := Option.some.inj hr
    obtain ⟨a0, a1⟩ := u64_range h1.2
    obtain ⟨b0, b1⟩ := u64_range h2.2
    have e : a.tmod b = a % b := Int.tmod_eq_emod_of_nonneg a0
    have q0 : 0 ≤ a % b := Int.emod_nonneg a hb
    have q1 : a % b < b := Int.emod_lt_of_pos a (by omega)
    have hw : IntKind.u64.wrap (a.tmod b) = a.tmod b := by
      rw [e]
      simp [IntKind.wrap, IntKind.bits, IntKind.signed]
      omega
    refine ⟨.int .u64 (a.tmod b), ?_, by simp only [Rep]; exact ⟨trivial, hw⟩⟩
    unfold execOp
    rw [ho]
    simp only [h1.1, h2.1]
    simp [binOp, eqGuard, Op.intDiv, hb, hw]
/-! ### a range over a map that is being ranged over -/
section
variable {P : Program} {o : Oper} {ρ : Operand → Option D} {α β : Type} {key : α → D} {g : β → D}
end
section
variable {P : Program} {f : FuncId} {fn : Func} {K : Ctx} {R : D → St → Prop} {k : List Item} {env : Env} {σ τ : St}
end
end Go.Proofs.Ytgndcnknmkcacaa


namespace Go.Proofs.Ytgndcnknmkcacaa
set_option maxRecDepth 100000
open Go.RowKit

/-- The ways in which the operations that write may come up: each alternative begins with one of them (its index), then come quiet ones, then the alternatives behind; nil: no more. -/
inductive Pl where
  | nil
  | cons (i : Nat) (D : List (Nat × Cls)) (next sib : Pl)
def Pl.heads : Pl → List Nat
  | .nil => []
  | .cons i _ _ sb => i :: sb.heads
def Pl.alts : Pl → List (Nat × List (Nat × Cls) × Pl)
  | .nil => []
  | .cons i D nx sb => (i, D, nx) :: sb.alts
def Pl.first : Pl → List (Nat × Cls)
  | .nil => []
  | .cons i D nx _ => (i, .w) :: D ++ nx.first
def PRun (P : Program) (ops : Array Oper) (Q : Env → St → Prop) : Pl → Bool → Env → St → Prop
  | .nil, true => Q
  | .nil, false => fun _ _ => True
  | .cons i D nx sb, _ => fun e s => Run P ops NX (PRun P ops Q nx true) ((i, .w) :: D) e s ∧ PRun P ops Q sb false e s
section
variable {P : Program} {ops : Array Oper} {Q : Env → St → Prop}
theorem p_end {e : Env} {s : St} (h : Q e s) : PRun P ops Q .nil true e s := h
theorem p_no {e : Env} {s : St} : PRun P ops Q .nil false e s := trivial
theorem p_alt {i : Nat} {D : List (Nat × Cls)} {nx sb : Pl} {f : Bool} {e : Env} {s : St} (h : Run P ops NX (PRun P ops Q nx true) ((i, .w) :: D) e s) (h2 : PRun P ops Q sb false e s) : PRun P ops Q (.cons i D nx sb) f e s := ⟨h, h2⟩
theorem prun_alt {e : Env} {s : St} : ∀ {p : Pl} {f : Bool}, PRun P ops Q p f e s → ∀ x ∈ p.alts, Run P ops NX (PRun P ops Q x.2.2 true) ((x.1, .w) :: x.2.1) e s
  | .nil, _, _, x, hx => by cases hx
  | .cons i D nx sb, _, h, x, hx => by
    rcases List.mem_cons.1 hx with rfl | hx
    · exact h.1
    · exact prun_alt h.2 x hx
/-- Whatever writes is not held against what comes behind it: the plan tells what may come up. -/
def okPairsP (ops : Array Oper) (M : Array Nat) : List (Nat × Cls) → Bool
  | [] => true
  | x :: l => (x.2.isW || l.all fun y => pairOk ops M x y) && okPairsP ops M l
/-- All that has not come up may come next or must wait for another. -/
def coverOk (ops : Array Oper) (M : Array Nat) (ord : List (Nat × Cls)) (H : List Nat) : Bool := (List.range ops.size).all fun k => (ord.any fun x => x.1 == k) || ((H.any fun x => x == k) || ((List.range ops.size).any fun j => !(ord.any fun x => x.1 == j) && (M.getD k 0).testBit j))
def okP (ops : Array Oper) (M : Array Nat) : Pl → List (Nat × Cls) → List Nat → Bool → Bool
  | .nil, ord, _, f => !f || (okIdx ops.size ord && okPairsP ops M ord)
  | .cons i D nx sb, ord, H, _ => coverOk ops M ord H && (D.all fun x => !x.2.isW) && okP ops M nx (ord ++ (i, .w) :: D) nx.heads true && okP ops M sb ord H false
def okPlan (ops : Array Oper) (pre : List (Nat × Cls)) (p : Pl) : Bool := okMask ops (ranks ops.size ((pre ++ p.first).map (·.1))) (masks ops ((pre ++ p.first).map (·.1))) && okLow ops (ranks ops.size ((pre ++ p.first).map (·.1))) && (pre.all fun x => !x.2.isW) && okP ops (masks ops ((pre ++ p.first).map (·.1))) p pre p.heads true
theorem okP_ext {M : Array Nat} : ∀ {p : Pl} {ord : List (Nat × Cls)} {H : List Nat}, okP ops M p ord H true = true → ∃ ext, okIdx ops.size (ord ++ ext) = true ∧ okPairsP ops M (ord ++ ext) = true ∧ ((∃ i D nx sb, p = .cons i D nx sb ∧ ∃ e', ext = (i, .w) :: e') ∨ (p = .nil ∧ ext = []))
  | .nil, ord, H, h => by
    simp only [okP, Bool.not_true, Bool.false_or, Bool.and_eq_true] at h
    exact ⟨[], by rw [List.append_nil]; exact h.1, by rw [List.append_nil]; exact h.2, .inr ⟨rfl, rfl⟩⟩
  | .cons i D nx sb, ord, H, h => by
    simp only [okP, Bool.and_eq_true] at h
    obtain ⟨ext, h1, h2, _⟩ := okP_ext h.1.2
    rw [List.append_assoc] at h1 h2
    exact ⟨_, h1, h2, .inl ⟨i, D, nx, sb, rfl, _, rfl⟩⟩
theorem okP_alt {M : Array Nat} : ∀ {p : Pl} {ord : List (Nat × Cls)} {H : List Nat} {f : Bool}, okP ops M p ord H f = true → ∀ x ∈ p.alts, coverOk ops M ord H = true ∧ (∀ y ∈ x.2.1, y.2.isW = false) ∧ okP ops M x.2.2 (ord ++ (x.1, .w) :: x.2.1) x.2.2.heads true = true
  | .nil, _, _, _, _, x, hx => by cases hx
  | .cons i D nx sb, ord, H, f, h, x, hx => by
    simp only [okP, Bool.and_eq_true] at h
    rcases List.mem_cons.1 hx with rfl | hx
    · exact ⟨h.1.1.1, fun y hy => by simpa using List.all_eq_true.1 h.1.1.2 y hy, h.1.2⟩
    · exact okP_alt h.2 x hx
theorem heads_alt : ∀ {p : Pl} {k : Nat}, k ∈ p.heads → ∃ x ∈ p.alts, x.1 = k
  | .nil, _, h => by cases h
  | .cons i D nx sb, k, h => by
    rcases List.mem_cons.1 h with rfl | h
    · exact ⟨_, List.mem_cons_self .., rfl⟩
    · obtain ⟨x, h1, h2⟩ := heads_alt h
      exact ⟨x, List.mem_cons_of_mem _ h1, h2⟩
theorem okPairsP_split {M : Array Nat} : ∀ {l m : List (Nat × Cls)} {x y : Nat × Cls}, okPairsP ops M (l ++ x :: m) = true → x.2.isW = false → y ∈ m → pairOk ops M x y = true
  | [], m, x, y, h, hx, hy => by
    simp only [List.nil_append, okPairsP, hx, Bool.false_or, Bool.and_eq_true] at h
    exact List.all_eq_true.1 h.1 y hy
  | z :: l, m, x, y, h, hx, hy => by
    simp only [List.cons_append, okPairsP, Bool.and_eq_true] at h
    exact okPairsP_split h.2 hx hy
theorem absorbed {σ : St} {l : List (Nat × Cls)} {E : Env} (hq : ∀ x ∈ l, x.2.isW = false) (h : Run P ops NX Q l E σ) : ∃ new : List PE, l = new.map (fun e => (e.i, e.c)) ∧ Q (envA E new) σ ∧ (∀ d1 e d2, new = d1 ++ e :: d2 → e.E = envA E d1 ∧ ops[e.i]? = some e.o ∧ PendOk P ops σ e ∧ e.c.isW = false) := by
  obtain ⟨new, l', h1, h2, h3, h4⟩ := absorb (P := P) (Q := Q) E σ l E h
  rcases h4 with rfl | ⟨i, c, l'', rfl, hc⟩
  · exact ⟨new, by rw [h1, List.append_nil], h2, h3⟩
  · have := hq (i, c) (by rw [h1]; simp)
    rw [hc] at this
    cases this
/-- The state between two operations. -/
structure MidP (P : Program) (ops : Array Oper) (Q : Env → St → Prop) (K : Ctx) (n : Nat) (m : Md) (M : Array Nat) (env0 : Env) (done : List PE) (p : Pl) (listed : Array Bool) (σ : St) (a : Act) (w : World) : Prop where
  ok : okP ops M p (done.map fun e => (e.i, e.c)) p.heads true = true
  chain : ∀ d1 e d2, done = d1 ++ e :: d2 → e.E = envA env0 d1 ∧ ops[e.i]? = some e.o ∧ (Tof listed e.i = false → PendOk P ops σ e ∧ e.c.isW = false)
  rest : PRun P ops Q p true (envA env0 done) σ
  new : ∀ k, Tof listed k = true → ∃ e ∈ done, e.i = k
  down : Down ops listed
  size : listed.size = ops.size
  good : Good K n m (envT (Tof listed) env0 done) σ a w
end
section
variable {P : Program} {ops : Array Oper} {Q : Env → St → Prop}
theorem plan_run {n : Nat} {md : Md} {K : Ctx} {env0 : Env} {M r : Array Nat} (hok : okOps ops n = true) (hM : okMask ops r M = true) (hL : okLow ops r = true) :
    ∀ (fuel : Nat) (pl : Pl) (done : List PE) (listed : Array Bool) (σ : St) (a : Act) (w : World), MidP P ops Q K n md M env0 done pl listed σ a w → leftN ops.size listed = fuel →
      wpAnyIn (fw md.rd) 0 P .any ops (EndsR P K n md NX Q) fuel listed a w := by
  intro fuel
  induction fuel with
  | zero =>
    intro pl done listed σ a w m h0
    have hall : ∀ i, i < ops.size → Tof listed i = true := fun i hi => by
      cases hT : Tof listed i with
      | true => rfl
      | false =>
        have : (i, Cls.d) ∈ ((List.range ops.size).map fun i => (i, Cls.d)).filter fun x => !Tof listed x.1 := List.mem_filter.2 ⟨List.mem_map.2 ⟨i, by simpa using hi, rfl⟩, by simp [hT]⟩
        have := List.length_pos_of_mem this
        unfold leftN left at h0
        omega
    refine ⟨?_, .inl ⟨rfl, ?_⟩⟩
    · refine List.eq_nil_iff_forall_not_mem.2 fun i hi => ?_
      obtain ⟨hun, o, ho, _⟩ := mem_ready.1 hi
      have hi' := (Array.getElem?_eq_some_iff.1 ho).1
      have := hall i hi'
      unfold Tof at this
      have hs : i < listed.size := by rw [m.size]; exact hi'
      simp [hs] at this hun
      rw [this] at hun
      cases hun
    · obtain ⟨ext, hI, _, hext⟩ := okP_ext m.ok
      simp only [okIdx, Bool.and_eq_true, decide_eq_true_eq] at hI
      obtain ⟨⟨_, hI2⟩, hnd⟩ := hI
      have hpl : pl = .nil := by
        rcases hext with ⟨i, D, nx, sb, _, e', rfl⟩ | ⟨h, _⟩
        · exfalso
          have hi : i < ops.size := by simpa using List.all_eq_true.1 hI2 (i, .w) (by simp)
          obtain ⟨e, he, hei⟩ := m.new i (hall i hi)
          rw [List.map_append, List.map_map] at hnd
          exact (List.nodup_append.1 hnd).2.2 e.i (List.mem_map_of_mem he) i (by simp) hei
        · exact h
      obtain ⟨p, g1, g2, g3, g4⟩ := m.good
      have hr := m.rest
      rw [hpl] at hr
      have he : envT (Tof listed) env0 done = envA env0 done := envT_congr fun e he => by
        obtain ⟨d1, d2, hd⟩ := List.append_of_mem he
        exact hall e.i (Array.getElem?_eq_some_iff.1 (m.chain d1 e d2 hd).2.1).1
      exact ⟨_, σ, p, hr, g1, he ▸ g2, g3, g4⟩
  | succ fuel ih =>
    intro pl done listed σ a w m h0
    obtain ⟨ext, hI, hP, hext⟩ := okP_ext m.ok
    simp only [okIdx, Bool.and_eq_true, decide_eq_true_eq] at hI
    obtain ⟨⟨hI1, hI2⟩, hnd⟩ := hI
    obtain ⟨p, g1, g2, g3, g4⟩ := m.good
    have hmask := fun k o ho hall j hj => mask_down (ops := ops) hM m.down _ k o rfl ho hall j hj
    refine ⟨fun hnone => ?_, fun i hi => ?_⟩
    · exfalso
      -- one that has not come up, the first of them
      have hex : ∃ i, i < ops.size ∧ Tof listed i = false := by
        have : 0 < leftN ops.size listed := by omega
        unfold leftN left at this
        obtain ⟨x, hx⟩ := List.exists_mem_of_length_pos this
        obtain ⟨hx1, hx2⟩ := List.mem_filter.1 hx
        obtain ⟨y, hy, rfl⟩ := List.mem_map.1 hx1
        exact ⟨y, by simpa using hy, by simpa using hx2⟩
      obtain ⟨i, hi1, hi2⟩ := hex
      have : ∀ n k, r.getD k 0 = n → k < ops.size → Tof listed k = false → False := by
        intro n
        induction n using Nat.strongRecOn with
        | _ n ihk =>
          intro k hkn hk1 hk2
          have hr : k ∈ Region.ready .any ops listed := by
            refine mem_ready.2 ⟨?_, ops[k], Array.getElem?_eq_getElem hk1, fun e he hb => ?_⟩
            · have hs : k < listed.size := by rw [m.size]; exact hk1
              unfold Tof at hk2
              simp [hs] at hk2 ⊢
              exact hk2
            · cases hT : Tof listed e.on with
              | true => exact hT
              | false =>
                have hl := List.all_eq_true.1 hL k (by simpa using hk1)
                simp only [Array.getElem?_eq_getElem hk1] at hl
                have := (Array.all_eq_true_iff_forall_mem.1 hl) e he
                simp only [hb, Bool.not_true, Bool.false_or, decide_eq_true_eq] at this
                exact (ihk _ (by rw [← hkn]; exact this.1) e.on rfl this.2 hT).elim
          rw [hnone] at hr
          cases hr
      exact this _ i rfl hi1 hi2
    · obtain ⟨hun, o, ho, hdeps⟩ := mem_ready.1 hi
      have hi' := (Array.getElem?_eq_some_iff.1 ho).1
      have hs : i < listed.size := by rw [m.size]; exact hi'
      have hT : Tof listed i = false := by
        unfold Tof
        simp [hs] at hun ⊢
        exact hun
      have hdown : Down ops (listed.setIfInBounds i true) := fun k o' ho' hk e he hb => by
        rw [tof_set hs] at hk ⊢
        split
        · rfl
        · by_cases hki : k = i
          · subst hki
            rw [ho] at ho'
            injection ho' with ho'
            subst ho'
            exact hdeps e he hb
          · rw [if_neg hki] at hk
            exact m.down k o' ho' hk e he hb
      have hleft := left_set (ord := (List.range ops.size).map fun i => (i, Cls.d)) (c := Cls.d) (by rw [List.map_map]; have : (Prod.fst ∘ fun i : Nat => (i, Cls.d)) = id := rfl; rw [this, List.map_id]; exact List.nodup_range) (List.mem_map.2 ⟨i, by simpa using hi', rfl⟩) hs hT
      -- who must have come up, who cannot have
      have before : ∀ x y : Nat × Cls, x.1 < ops.size → pairOk ops M x y = true → y.1 = i → Tof listed x.1 = false → x.2.isW = false ∧ ¬(x.2 = .r ∧ y.2.isW = true) ∧ apartAt ops x.1 y.1 = true := fun x y hx hp hy hf => pair_apart hp (by
        cases hb : (M.getD y.1 0).testBit x.1 with
        | false => rfl
        | true =>
          rw [hy] at hb
          rw [hmask i o ho hdeps x.1 hx hb] at hf
          cases hf)
      have behind : ∀ x y : Nat × Cls, y.1 < ops.size → pairOk ops M x y = true → x.1 = i → Tof listed y.1 = true → x.2.isW = false ∧ ¬(x.2 = .r ∧ y.2.isW = true) ∧ apartAt ops x.1 y.1 = true := fun x y hy hp hx ht => pair_apart hp (by
        cases hb : (M.getD y.1 0).testBit x.1 with
        | false => rfl
        | true =>
          have h1 := hmask y.1 _ (Array.getElem?_eq_getElem hy) (m.down y.1 _ (Array.getElem?_eq_getElem hy) ht) x.1 (by rw [hx]; exact hi') hb
          rw [hx, hT] at h1
          cases h1)
      have apartL : ∀ {j k : Nat} {x y : Oper}, apartAt ops j k = true → ops[j]? = some x → ops[k]? = some y → x.apart ops y = true := fun {j k x y} h hx hy => by
        unfold apartAt at h
        rw [hx, hy] at h
        exact h
      by_cases hin : ∃ e ∈ done, e.i = i
      · -- it is pending
        obtain ⟨e, he, hec⟩ := hin
        obtain ⟨d1, d2, hsplit⟩ := List.append_of_mem he
        obtain rfl : e.i = i := hec
        obtain ⟨hE, heo, hpend⟩ := m.chain d1 e d2 hsplit
        obtain ⟨hp, hcw⟩ := hpend hT
        have heq : e.o = o := by rw [heo] at ho; injection ho
        have hunl : ∀ x ∈ done, Tof listed x.i = false → x.c.isW = false := fun x hx hf => by
          obtain ⟨u1, u2, hu⟩ := List.append_of_mem hx
          exact ((m.chain u1 x u2 hu).2.2 hf).2
        have hpair1 : ∀ x ∈ d1, Tof listed x.i = false → pairOk ops M (x.i, x.c) (e.i, e.c) = true := fun x hx hf => by
          obtain ⟨u1, u2, hu⟩ := List.append_of_mem hx
          have : okPairsP ops M ((u1.map fun e => (e.i, e.c)) ++ (x.i, x.c) :: ((u2.map fun e => (e.i, e.c)) ++ (e.i, e.c) :: ((d2.map fun e => (e.i, e.c)) ++ ext))) = true := by
            rw [← hP, hsplit, hu]; simp
          exact okPairsP_split this (hunl x (by rw [hsplit]; exact List.mem_append_left _ hx) hf) (by simp)
        have hpair2 : ∀ x ∈ d2, pairOk ops M (e.i, e.c) (x.i, x.c) = true := fun x hx => by
          have : okPairsP ops M ((d1.map fun e => (e.i, e.c)) ++ (e.i, e.c) :: ((d2.map fun e => (e.i, e.c)) ++ ext)) = true := by
            rw [← hP, hsplit]; simp
          exact okPairsP_split this hcw (List.mem_append_left _ (List.mem_map_of_mem hx))
        have hmemlt : ∀ x ∈ done, x.i < ops.size ∧ ops[x.i]? = some x.o := fun x hx => by
          obtain ⟨u1, u2, hu⟩ := List.append_of_mem hx
          have := (m.chain u1 x u2 hu).2.1
          exact ⟨(Array.getElem?_eq_some_iff.1 this).1, this⟩
        have hin1 : ∀ x ∈ d1, x ∈ done := fun x hx => by rw [hsplit]; exact List.mem_append_left _ hx
        have hin2 : ∀ x ∈ d2, x ∈ done := fun x hx => by rw [hsplit]; exact List.mem_append_right _ (List.mem_cons_of_mem _ hx)
        have hlook : ∀ t ∈ o.looksAt ops, lk (envT (Tof listed) env0 done) t = lk e.E t := fun t ht => by
          rw [hsplit, envT_app]
          have hcons : envT (Tof listed) (envT (Tof listed) env0 d1) (e :: d2) = envT (Tof listed) (envT (Tof listed) env0 d1) d2 := by simp [envT, hT]
          rw [hcons, envT_skip, hE]
          · refine envT_all (fun x hx hd => ?_) rfl
            cases hf : Tof listed x.i with
            | true => rfl
            | false =>
              have := (before (x.i, x.c) (e.i, e.c) (hmemlt x (hin1 x hx)).1 (hpair1 x hx hf) rfl hf).2.2
              have h5 := apartL this (hmemlt x (hin1 x hx)).2 ho
              exact absurd ht ((Oper.apart_spec h5).1 t hd)
          · intro x hx hf hd
            have := (behind (e.i, e.c) (x.i, x.c) (hmemlt x (hin2 x hx)).1 (hpair2 x hx) rfl hf).2.2
            have h5 := apartL this ho (hmemlt x (hin2 x hx)).2
            exact (Oper.apart_spec h5).2.2 t hd ht
        have hrep : ∀ t ∈ o.looksAt ops, ∀ d, lk e.E t = some d → Rep p w d (a.tmps.getD t Go.undef) := fun t ht d hd => g2 t d (by rw [hlook t ht]; exact hd)
        have hput : ∀ t, lk (envT (Tof (listed.setIfInBounds e.i true)) env0 done) t = lk ((envT (Tof listed) env0 done).put o.dst e.V) t := fun t => by
          have hne1 : ∀ x ∈ d1, x.i ≠ e.i := fun x hx hxe => by
            rw [hsplit] at hnd
            simp only [List.map_append, List.map_cons, List.map_map] at hnd
            have := List.nodup_append.1 (List.nodup_append.1 hnd).1
            exact this.2.2 _ (List.mem_map_of_mem hx) _ (List.mem_cons_self ..) hxe
          have hne2 : ∀ x ∈ d2, x.i ≠ e.i := fun x hx hxe => by
            rw [hsplit] at hnd
            simp only [List.map_append, List.map_cons, List.map_map] at hnd
            have := (List.nodup_append.1 (List.nodup_append.1 hnd).1).2.1
            simp only [List.nodup_cons] at this
            exact this.1 (List.mem_map.2 ⟨x, hx, hxe⟩)
          have e1 : envT (Tof (listed.setIfInBounds e.i true)) env0 done = envT (Tof listed) ((envT (Tof listed) env0 d1).put o.dst e.V) d2 := by
            rw [hsplit, envT_app, envT_congr (T := Tof (listed.setIfInBounds e.i true)) (T' := Tof listed) (l := d1) fun x hx => by rw [tof_set hs, if_neg (hne1 x hx)]]
            have : envT (Tof (listed.setIfInBounds e.i true)) (envT (Tof listed) env0 d1) (e :: d2) = envT (Tof (listed.setIfInBounds e.i true)) ((envT (Tof listed) env0 d1).put o.dst e.V) d2 := by
              simp [envT, tof_set hs, heq]
            rw [this]
            exact envT_congr fun x hx => by rw [tof_set hs, if_neg (hne2 x hx)]
          have e2 : envT (Tof listed) env0 done = envT (Tof listed) (envT (Tof listed) env0 d1) d2 := by
            rw [hsplit, envT_app]; simp [envT, hT]
          rw [e1, e2, look_put]
          by_cases hd : o.dst = some t
          · rw [if_pos hd, envT_skip, look_put, if_pos hd]
            intro x hx hf hxd
            have := (behind (e.i, e.c) (x.i, x.c) (hmemlt x (hin2 x hx)).1 (hpair2 x hx) rfl hf).2.2
            have h5 := apartL this ho (hmemlt x (hin2 x hx)).2
            exact (Oper.apart_spec h5).2.1 t hd hxd
          · rw [if_neg hd]
            have gen : ∀ (m : List PE) (A B : Env), lk A t = lk B t → lk (envT (Tof listed) A m) t = lk (envT (Tof listed) B m) t := by
              intro m
              induction m with
              | nil => exact fun A B h => h
              | cons x m ihm =>
                intro A B h
                simp only [envT, List.foldl_cons]
                refine ihm _ _ ?_
                split
                · simp only [look_put]; split <;> simp [h]
                · exact h
            exact gen d2 _ _ (by rw [look_put, if_neg hd])
        have next : ∀ (a' : Act) (w' : World) (p' : Addr → Prop) (v : Value), a' = a.put o.dst v → Rep p' w' e.V v → Inv K p' σ w' → Grow p w p' w' → MidP P ops Q K n md M env0 done pl (listed.setIfInBounds e.i true) σ a' w' := fun a' w' p' v ha' hv hi2 hg => by
          refine ⟨m.ok, fun u1 x u2 hu => ?_, m.rest, fun k hk => ?_, hdown, by simpa using m.size, ⟨p', hi2, fun t d ht => ?_, ?_, ?_⟩⟩
          · obtain ⟨q1, q2, q3⟩ := m.chain u1 x u2 hu
            refine ⟨q1, q2, fun hf => q3 ?_⟩
            rw [tof_set hs] at hf
            split at hf
            · cases hf
            · exact hf
          · rw [tof_set hs] at hk
            split at hk
            · rename_i hke
              exact ⟨e, he, hke.symm⟩
            · exact m.new k hk
          · rw [hput t] at ht
            have hr' := (g2.grow hg).put (dst := o.dst) hv fun t ht => Nat.lt_of_lt_of_le (okOps_dst hok ho t ht) g3
            rw [ha']
            exact hr' t d ht
          · rw [ha', put_size]; exact g3
          · rw [ha', put_defers']; exact g4
        unfold wpOpIn
        simp only [ho]
        have hlf : leftN ops.size (listed.setIfInBounds e.i true) = fuel := by unfold leftN at h0 ⊢; omega
        rcases hp with ⟨hw, hV⟩ | ⟨hw, hp⟩
        · rw [heq] at hw
          rw [wantD_spec hrep hw]
          simp only [Bool.false_eq_true, if_false]
          exact ⟨fun f _ => fw_fn _ f, ih _ _ _ _ _ _ (next _ w p Go.undef rfl (by rw [hV]; simp only [Rep]) g1 (Grow.refl p w)) hlf⟩
        · rw [heq] at hw
          rw [wantD_spec hrep hw]
          simp only [if_true]
          have hst : StepS P o (ev e.E) σ fun d' σ' => d' = e.V ∧ σ' = σ := by
            rw [← heq]
            rcases hp with ⟨_, hp⟩ | ⟨_, hp⟩
            · exact hp σ
            · exact hp
          refine wpIn_die (fun a' w' hh => ?_) (fun _ _ _ hh => hh.elim) (hst.y md.rd K p a w g1 (evs_rep hok ho hrep))
          obtain ⟨v, d, σ', p', ha', ⟨rfl, rfl⟩, hv, hi2, hg⟩ := hh
          exact ih _ _ _ _ _ _ (next a' w' p' v ha' hv hi2 hg) hlf
      · -- it is the next one of our plan
        obtain ⟨x, hx, hxi⟩ : ∃ x ∈ pl.alts, x.1 = i := by
          have hno : ∀ j, j < ops.size → (∀ e ∈ done, e.i ≠ j) → (done.map fun e => (e.i, e.c)).any (fun x => x.1 == j) = false := fun j _ hj => by
            rw [List.any_eq_false]
            intro y hy
            obtain ⟨e, he, rfl⟩ := List.mem_map.1 hy
            simpa using hj e he
          have hni : ∀ e ∈ done, e.i ≠ i := fun e he hei => hin ⟨e, he, hei⟩
          rcases hext with ⟨i0, D0, nx0, sb0, rfl, _⟩ | ⟨_, rfl⟩
          · have hcov := (okP_alt m.ok (i0, D0, nx0) (List.mem_cons_self ..)).1
            have h1 := List.all_eq_true.1 hcov i (by simpa using hi')
            rw [hno i hi' hni, Bool.false_or, Bool.or_eq_true] at h1
            rcases h1 with h1 | h1
            · obtain ⟨k, hk, hki⟩ := List.any_eq_true.1 h1
              obtain rfl : k = i := beq_iff_eq.1 hki
              exact heads_alt hk
            · exfalso
              obtain ⟨j, hj, hb⟩ := List.any_eq_true.1 h1
              have hj : j < ops.size := by simpa using hj
              rw [Bool.and_eq_true, Bool.not_eq_true'] at hb
              obtain ⟨e, he, hej⟩ := m.new j (hmask i o ho hdeps j hj hb.2)
              have := List.any_eq_false.1 hb.1 (e.i, e.c) (List.mem_map_of_mem he)
              simp [hej] at this
          · exfalso
            obtain ⟨y, hy, hyi⟩ := List.any_eq_true.1 (List.all_eq_true.1 hI1 i (by simpa using hi'))
            rw [List.append_nil] at hy
            obtain ⟨e, he, rfl⟩ := List.mem_map.1 hy
            exact hni e he (beq_iff_eq.1 hyi)
        obtain ⟨i0, Dq, nx⟩ := x
        simp only at hxi
        subst hxi
        obtain ⟨_, hDq, hokn⟩ := okP_alt m.ok _ hx
        simp only at hDq hokn
        have hrun := prun_alt m.rest _ hx
        simp only at hrun
        clear hP hI1 hI2 hnd hext
        obtain ⟨ext, hI, hP, _⟩ := okP_ext hokn
        simp only [okIdx, Bool.and_eq_true, decide_eq_true_eq] at hI
        obtain ⟨⟨hI1, hI2⟩, hnd⟩ := hI
        have hunl : ∀ x ∈ done, Tof listed x.i = false → x.c.isW = false := fun x hx hf => by
          obtain ⟨u1, u2, hu⟩ := List.append_of_mem hx
          exact ((m.chain u1 x u2 hu).2.2 hf).2
        have hpair : ∀ x ∈ done, Tof listed x.i = false → pairOk ops M (x.i, x.c) (i0, .w) = true := fun x hx hf => by
          obtain ⟨u1, u2, hu⟩ := List.append_of_mem hx
          have : okPairsP ops M ((u1.map fun e => (e.i, e.c)) ++ (x.i, x.c) :: ((u2.map fun e => (e.i, e.c)) ++ (i0, .w) :: (Dq ++ ext))) = true := by
            rw [← hP, hu]; simp
          exact okPairsP_split this (hunl x hx hf) (by simp)
        have hmemlt : ∀ x ∈ done, x.i < ops.size ∧ ops[x.i]? = some x.o := fun x hx => by
          obtain ⟨u1, u2, hu⟩ := List.append_of_mem hx
          have := (m.chain u1 x u2 hu).2.1
          exact ⟨(Array.getElem?_eq_some_iff.1 this).1, this⟩
        have hne : ∀ x ∈ done, x.i ≠ i0 := fun x hx hxe => hin ⟨x, hx, hxe⟩
        have hlook : ∀ t ∈ o.looksAt ops, lk (envT (Tof listed) env0 done) t = lk (envA env0 done) t := fun t ht =>
          envT_all (fun x hx hd => by
            cases hf : Tof listed x.i with
            | true => rfl
            | false =>
              have := (before (x.i, x.c) (i0, .w) (hmemlt x hx).1 (hpair x hx hf) rfl hf).2.2
              have h5 := apartL this (hmemlt x hx).2 ho
              exact absurd ht ((Oper.apart_spec h5).1 t hd)) rfl
        have hrep : ∀ t ∈ o.looksAt ops, ∀ d, lk (envA env0 done) t = some d → Rep p w d (a.tmps.getD t Go.undef) := fun t ht d hd => g2 t d (by rw [hlook t ht]; exact hd)
        have next : ∀ (a' : Act) (w' : World) (p' : Addr → Prop) (v : Value) (V : D) (σ' : St), a' = a.put o.dst v → Rep p' w' V v → Inv K p' σ' w' → Grow p w p' w' → Run P ops NX (PRun P ops Q nx true) Dq ((envA env0 done).put o.dst V) σ' →
            ∃ done', MidP P ops Q K n md M env0 done' nx (listed.setIfInBounds i0 true) σ' a' w' := fun a' w' p' v V σ' ha' hv hi2 hg hrun => by
          obtain ⟨new, h1, h2, h3⟩ := absorbed hDq hrun
          have heA : envA env0 (done ++ [⟨i0, .w, o, envA env0 done, V⟩]) = (envA env0 done).put o.dst V := by simp [envT]
          have hnd' : (done.map (fun e => e.i) ++ i0 :: (new.map (fun e => e.i) ++ ext.map (·.1))).Nodup := by
            have := hnd
            rw [h1] at this
            simpa [List.map_map, Function.comp_def] using this
          have hnd2 := List.nodup_append.1 hnd'
          have hnd3 := List.nodup_cons.1 hnd2.2.1
          have hnewf : ∀ x ∈ new, Tof (listed.setIfInBounds i0 true) x.i = false := fun x hx => by
            have hxi : x.i ≠ i0 := fun e => hnd3.1 (by rw [← e]; exact List.mem_append_left _ (List.mem_map_of_mem hx))
            rw [tof_set hs, if_neg hxi]
            cases hT2 : Tof listed x.i with
            | false => rfl
            | true =>
              obtain ⟨e, he, hei⟩ := m.new x.i hT2
              exact absurd hei (hnd2.2.2 e.i (List.mem_map_of_mem he) x.i (List.mem_cons_of_mem _ (List.mem_append_left _ (List.mem_map_of_mem hx))))
          refine ⟨done ++ ⟨i0, .w, o, envA env0 done, V⟩ :: new, ⟨by have := hokn; rw [h1] at this; simpa using this, fun u1 x u2 hu => ?_, ?_, fun k hk => ?_, hdown, by simpa using m.size, ⟨p', hi2, fun t d ht => ?_, ?_, ?_⟩⟩⟩
          · -- the chain
            rcases List.append_eq_append_iff.1 hu with ⟨v1, hv1, hv2⟩ | ⟨v1, hv1, hv2⟩
            · cases v1 with
              | nil =>
                simp only [List.nil_append, List.cons.injEq] at hv2
                obtain ⟨rfl, rfl⟩ := hv2
                simp only [List.append_nil] at hv1
                subst hv1
                exact ⟨rfl, ho, fun hf => by rw [tof_set hs, if_pos rfl] at hf; cases hf⟩
              | cons y v1 =>
                simp only [List.cons_append, List.cons.injEq] at hv2
                obtain ⟨rfl, hv2⟩ := hv2
                obtain ⟨q1, q2, q3, q4⟩ := h3 v1 x u2 hv2
                refine ⟨?_, q2, fun _ => ⟨q3, q4⟩⟩
                rw [q1, hv1]
                simp [envT]
            · cases v1 with
              | nil =>
                simp only [List.nil_append, List.cons.injEq] at hv2
                obtain ⟨rfl, rfl⟩ := hv2
                simp only [List.append_nil] at hv1
                subst hv1
                exact ⟨rfl, ho, fun hf => by rw [tof_set hs, if_pos rfl] at hf; cases hf⟩
              | cons y v1 =>
                simp only [List.cons_append, List.cons.injEq] at hv2
                obtain ⟨rfl, hv2⟩ := hv2
                have hxin : x ∈ done := by rw [hv1]; simp
                obtain ⟨q1, q2, q3⟩ := m.chain u1 x v1 hv1
                refine ⟨q1, q2, fun hf => ?_⟩
                rw [tof_set hs, if_neg (hne x hxin)] at hf
                obtain ⟨q4, q5⟩ := q3 hf
                refine ⟨?_, q5⟩
                have hnr := (before (x.i, x.c) (i0, .w) (hmemlt x hxin).1 (hpair x hxin hf) rfl hf).2.1
                rcases q4 with q4 | ⟨q4, q6⟩
                · exact .inl q4
                · refine .inr ⟨q4, ?_⟩
                  rcases q6 with q6 | ⟨q6, _⟩
                  · exact .inl q6
                  · exact absurd ⟨q6, rfl⟩ hnr
          · have hee : envA env0 (done ++ (⟨i0, .w, o, envA env0 done, V⟩ : PE) :: new) = envA ((envA env0 done).put o.dst V) new := by
              rw [← heA]
              simp [envT]
            rw [hee]
            exact h2
          · rw [tof_set hs] at hk
            split at hk
            · rename_i hke
              exact ⟨⟨i0, .w, o, envA env0 done, V⟩, by simp, hke.symm⟩
            · obtain ⟨e, he, hek⟩ := m.new k hk
              exact ⟨e, List.mem_append_left _ he, hek⟩
          · have hT' : ∀ x ∈ done, Tof (listed.setIfInBounds i0 true) x.i = Tof listed x.i := fun x hx => by rw [tof_set hs, if_neg (hne x hx)]
            rw [envT_app, envT_congr hT'] at ht
            have hcons : envT (Tof (listed.setIfInBounds i0 true)) (envT (Tof listed) env0 done) (⟨i0, .w, o, envA env0 done, V⟩ :: new) = envT (Tof (listed.setIfInBounds i0 true)) ((envT (Tof listed) env0 done).put o.dst V) new := by simp [envT, tof_set hs]
            rw [hcons, envT_skip (fun x hx hf => by rw [hnewf x hx] at hf; cases hf)] at ht
            have hr' := (g2.grow hg).put (dst := o.dst) hv fun t ht => Nat.lt_of_lt_of_le (okOps_dst hok ho t ht) g3
            rw [ha']
            exact hr' t d ht
          · rw [ha', put_size]; exact g3
          · rw [ha', put_defers']; exact g4
        have hlf : leftN ops.size (listed.setIfInBounds i0 true) = fuel := by unfold leftN at h0 ⊢; omega
        unfold wpOpIn
        simp only [ho]
        obtain ⟨o', ho', hrun⟩ := hrun
        obtain rfl : o' = o := by rw [ho] at ho'; injection ho' with h; exact h.symm
        have hrun : (wantD ops (envA env0 done) o' = some false ∧ Run P ops NX (PRun P ops Q nx true) Dq ((envA env0 done).put o'.dst .undef) σ) ∨ (wantD ops (envA env0 done) o' = some true ∧ ∃ R, StepY P o' (ev (envA env0 done)) σ R ∧ ∀ d σ', R d σ' → Run P ops NX (PRun P ops Q nx true) Dq ((envA env0 done).put o'.dst d) σ') := by
          rcases hrun with hrun | hrun | ⟨_, _, hx, _⟩
          · exact .inl hrun
          · exact .inr hrun
          · exact hx.elim
        rcases hrun with ⟨hw, hk⟩ | ⟨hw, R, hst, hk⟩
        · rw [wantD_spec hrep hw]
          simp only [Bool.false_eq_true, if_false]
          obtain ⟨done', hm⟩ := next _ w p Go.undef .undef σ rfl (by simp only [Rep]) g1 (Grow.refl p w) hk
          exact ⟨fun f _ => fw_fn _ f, ih _ _ _ _ _ _ hm hlf⟩
        · rw [wantD_spec hrep hw]
          simp only [if_true]
          refine wpIn_die (fun a' w' hh => ?_) (fun _ _ _ hh => hh.elim) (hst md.rd K p a w g1 (evs_rep hok ho hrep))
          obtain ⟨v, d, σ', p', ha', hR, hv, hi2, hg⟩ := hh
          obtain ⟨done', hm⟩ := next a' w' p' v d σ' ha' hv hi2 hg (hk d σ' hR)
          exact ih _ _ _ _ _ _ hm hlf

theorem plan_of {n : Nat} {md : Md} {K : Ctx} {env : Env} {σ : St} (hok : okOps ops n = true) (pre : List (Nat × Cls)) (pl : Pl) (hA : okPlan ops pre pl = true) (h : Run P ops NX (PRun P ops Q pl true) pre env σ)
    {p : Addr → Prop} {a : Act} {w : World} (hi : Inv K p σ w) (hr : RelEnv p w env a) (hn : n ≤ a.tmps.size) (hd : a.defers = md.marks) :
    wpAnyIn (fw md.rd) 0 P .any ops (EndsR P K n md NX Q) ops.size (Array.replicate ops.size false) a w := by
  simp only [okPlan, Bool.and_eq_true] at hA
  obtain ⟨⟨⟨hM, hL⟩, hq⟩, hP⟩ := hA
  obtain ⟨new, h1, h2, h3⟩ := absorbed (fun x hx => by simpa using List.all_eq_true.1 hq x hx) h
  have h0 : ∀ i, Tof (Array.replicate ops.size false) i = false := fun i => by
    unfold Tof
    rw [Array.getD_eq_getD_getElem?, Array.getElem?_replicate]
    split <;> rfl
  have hfuel : leftN ops.size (Array.replicate ops.size false) = ops.size := by
    unfold leftN left
    rw [List.filter_eq_self.2 fun x _ => by rw [h0]; rfl]
    simp
  refine plan_run (P := P) (Q := Q) (K := K) (n := n) hok hM hL _ pl new _ σ a w ⟨by rw [← h1]; exact hP, fun d1 e d2 hh => ?_, h2, fun k hk => ?_, fun k' o _ hk => ?_, by simp, ⟨p, hi, ?_, hn, hd⟩⟩ hfuel
  · obtain ⟨q1, q2, q3, q4⟩ := h3 d1 e d2 hh
    exact ⟨q1, q2, fun _ => ⟨q3, q4⟩⟩
  · rw [h0] at hk; cases hk
  · rw [h0] at hk; cases hk
  · have : envT (Tof (Array.replicate ops.size false)) env new = env := by
      have : ∀ (m : List PE), envT (Tof (Array.replicate ops.size false)) env m = env := by
        intro m
        induction m with
        | nil => rfl
        | cons x m ih => simp only [envT, List.foldl_cons, h0, Bool.false_eq_true, if_false] at ih ⊢; exact ih
      exact this new
    rw [this]
    exact hr
/-- A region by a plan: each way is walked, to the same end. -/
theorem g_plan {m : Md} {f : FuncId} {fn : Func} {K : Ctx} {R : D → St → Prop} {k : List Item} {env : Env} {σ : St} {id : Nat} {l : List Oper} (hm : P.follows .mixedOrders = true) (hok : okOps l.toArray fn.ntmps = true) (pre : List (Nat × Cls)) (pl : Pl) (hA : okPlan l.toArray pre pl = true) (J : Env → St → Prop)
    (h : Run P l.toArray NX (PRun P l.toArray J pl true) pre env σ) (hJ : ∀ e s, J e s → GoesG m P f fn K R k e s) : GoesG m P f fn K R (.code (.region id l.toArray true) :: k) env σ :=
  g_region (Q := J) (X := NX) (fun p a w hi hr hn hd => wpIn_region_any hm (plan_of (md := m) (P := P) (Q := J) (K := K) (n := fn.ntmps) hok pre pl hA h hi.drew (hr.grow (grow_drew p w)) hn hd)) (fun _ h => h.elim) hJ
end
end Go.Proofs.Ytgndcnknmkcacaa


namespace Go.Proofs.Ytgndcnknmkcacaa
set_option maxRecDepth 100000
open Go.RowKit

theorem bo_api_Program_0 : BuildT Try.prog 25 [.own (.slice none 0 0) [], .lst (([] : List _).map enc_S_api_Rule)] := .mk rfl (by kernel_rfl) Try.underlying25 (by kernel_rfl)

noncomputable def lf_constraintlaw15_ScopeLess_L0 (k : ((List S_api_Decl)) → ((List S_api_Rule)) → Option (Bool)) (p_a0 : S_api_Program) : Nat → (List S_api_Decl) → (List S_api_Rule) → Option (Bool)
  | 0, turned_14, turned_15 =>
  (k turned_14 turned_15)
  | k_32 + 1, turned_14, turned_15 =>
  ((getI p_a0.f0_Decls (k_32 : Int)).bind fun q_33 =>
  ((appO 24 turned_14 [q_33]).bind fun l_34 =>
  (lf_constraintlaw15_ScopeLess_L0 k p_a0 k_32 l_34 turned_15)))

noncomputable def lf_constraintlaw15_ScopeLess_J0 (k : (S_api_Program) → Option (Bool)) (l_9 : (List S_api_Rule)) (p_a0 : S_api_Program) (which_a1 : Int) : Option (Bool) :=
  (bif (decide ((p_a0.f1_Rules.length : Int) > (0 : Int))) then
  ((remU (IntKind.u64.wrap which_a1) (IntKind.u64.wrap (p_a0.f1_Rules.length : Int))).bind fun m_38 =>
  ((subO p_a0.f1_Rules 0 (IntKind.i64.wrap m_38)).bind fun l_39 =>
  ((subO p_a0.f1_Rules (wr ((IntKind.i64.wrap m_38) + (1 : Int))) (p_a0.f1_Rules.length : Int)).bind fun l_40 =>
  ((appO 120 [] l_39).bind fun l_42 =>
  ((appO 120 l_42 l_40).bind fun l_44 =>
  (k (⟨p_a0.f0_Decls, l_44⟩ : S_api_Program)))))))
  else
  (k (⟨p_a0.f0_Decls, l_9⟩ : S_api_Program)))
noncomputable def lf_constraintlaw15_ScopeLess (p_a0 : S_api_Program) (which_a1 : Int) (more_a2 : S_api_Decl) : Option (Bool) :=
  (lf_constraintlaw15_live.bind fun r_1 =>
  (bif (!r_1) then
  some (false)
  else
  ((lf_constraintref15_Great p_a0 300).bind fun r_3 =>
  (bif r_3 then
  some (true)
  else
  (bif (decide ((more_a2.f0_Name.size : Int) > (100 : Int))) then
  some (true)
  else
  ((lf_scope_Check p_a0).bind fun r_6 =>
  (bif (r_6.2 != (0 : Int)) then
  some (true)
  else
  ((appO 120 [] p_a0.f1_Rules).bind fun l_9 =>
  (lf_constraintlaw15_ScopeLess_J0 (fun less_10 =>
  ((downO (wr ((p_a0.f0_Decls.length : Int) - (1 : Int)))).bind fun m_36 =>
  (lf_constraintlaw15_ScopeLess_L0 (fun turned_17 turned_18 =>
  ((appO 24 [] p_a0.f0_Decls).bind fun l_20 =>
  ((appO 24 l_20 [more_a2]).bind fun l_21 =>
  ((lf_scope_Check less_10).bind fun r_22 =>
  ((lf_scope_Check (⟨turned_17, turned_18⟩ : S_api_Program)).bind fun r_23 =>
  ((lf_scope_Check (⟨l_21, p_a0.f1_Rules⟩ : S_api_Program)).bind fun r_24 =>
  (bif (r_22.2 != (0 : Int)) then
  some (false)
  else
  (bif (r_23.2 != (0 : Int)) then
  some (false)
  else
  (bif (r_24.2 == (0 : Int)) then
  ((lf_scope_Declared p_a0.f0_Decls more_a2.f0_Name more_a2.f1_Arity).bind fun r_28 =>
  some ((!r_28)))
  else
  (bif (r_24.1 == ((-1) : Int)) then
  (bif ((r_24.2 == (6 : Int)) == (decide ((p_a0.f0_Decls.length : Int) ≥ (30 : Int)))) then
  (bif (r_24.2 != (10 : Int)) then
  some ((r_24.2 != (17 : Int)))
  else
  some (false))
  else
  some (false))
  else
  some (false))))))))))) p_a0 m_36 [] p_a0.f1_Rules))) l_9 p_a0 which_a1)))))))))

set_option maxHeartbeats 1000000 in
theorem lg_constraintlaw15_ScopeLess (p_a0 : S_api_Program) (which_a1 : Int) (more_a2 : S_api_Decl) (res : Bool) (hr : lf_constraintlaw15_ScopeLess p_a0 which_a1 more_a2 = some res) : Gives Try.prog 7 [enc_S_api_Program p_a0, .int .i64 which_a1, enc_S_api_Decl more_a2] (.bool res) := by
  unfold lf_constraintlaw15_ScopeLess at hr
  refine spec_env [(0, enc_S_api_Program p_a0), (1, .int .i64 which_a1), (2, enc_S_api_Decl more_a2)] Try.func7 rfl rfl fun K hK => ?_
  refine g_seq ?_
  refine g_run (by kernel_rfl) [(0, .d), (1, .d), (2, .d)] rfl ?_
  refine r_d rfl rfl rfl (s_box rfl rfl rfl) ?_
  refine r_d rfl rfl rfl (s_box rfl rfl rfl) ?_
  refine r_d rfl rfl rfl (s_assign rfl rfl) ?_
  refine r_end ?_
  refine g_seq ?_
  refine g_seq ?_
  refine g_run (by kernel_rfl) [(0, .d), (1, .d)] rfl ?_
  obtain ⟨r_1, hr_1, hr⟩ := bindS hr
  refine r_d rfl rfl rfl (s_callD rfl cl_constraintlaw15_live .nil (lg_constraintlaw15_live _ hr_1)) ?_
  refine r_d rfl rfl rfl (s_not rfl rfl) ?_
  refine r_end ?_
  refine g_sB 21 rfl hr (fun h21_1 hr => ?_) (fun h21_1 hr => ?_)
  ·
   refine g_condT rfl ?_
   refine g_seq ?_
   refine g_run (by kernel_rfl) [(0, .d)] rfl ?_
   refine r_d rfl rfl rfl (s_assign rfl rfl) ?_
   refine r_end ?_
   obtain rfl := Option.some.inj hr
   refine g_ret Try.func7 _ (.cons (resTmp rfl (Wk.refl _)) .nil) ?_
   rfl
  ·
   refine g_condF rfl ?_
   refine g_skip ?_
   refine g_seq ?_
   refine g_seq ?_
   refine g_run (by kernel_rfl) [(0, .d), (1, .d), (2, .d), (3, .d), (4, .d), (5, .d), (6, .d), (7, .d)] rfl ?_
   refine r_d rfl rfl rfl (s_load rfl rfl (by exact ty_api_Program) (sz_S_api_Program _)) ?_
   obtain ⟨r_3, hr_3, hr⟩ := bindS hr
   refine r_d rfl rfl rfl (s_callD rfl cl_constraintref15_Great (.cons rfl (Wk.refl _) (.cons rfl (Wk.refl _) .nil)) (lg_constraintref15_Great _ _ _ hr_3)) ?_
   refine r_d rfl rfl rfl (s_move rfl rfl) ?_
   refine r_sB 24 rfl hr (fun h24_3 hr => ?_) (fun h24_3 hr => ?_)
   ·
    refine r_skip rfl rfl rfl ?_
    refine r_skip rfl rfl rfl ?_
    refine r_skip rfl rfl rfl ?_
    refine r_skip rfl rfl rfl ?_
    refine r_d rfl rfl rfl (s_pickT rfl rfl rfl) ?_
    refine r_end ?_
    refine g_condT rfl ?_
    refine g_seq ?_
    refine g_run (by kernel_rfl) [(0, .d)] rfl ?_
    refine r_d rfl rfl rfl (s_assign rfl rfl) ?_
    refine r_end ?_
    obtain rfl := Option.some.inj hr
    refine g_ret Try.func7 _ (.cons (resTmp rfl (Wk.refl _)) .nil) ?_
    rfl
   ·
    refine r_d rfl rfl rfl (s_fieldAddr rfl fl_api_Decl_0 rfl rfl rfl rfl) ?_
    refine r_d rfl rfl rfl (s_load rfl rfl (by exact ty_string) rfl) ?_
    refine r_d rfl rfl rfl (s_lenS rfl Try.underlying9 rfl) ?_
    refine r_d rfl rfl rfl (s_cmp rfl rfl rfl rfl) ?_
    refine r_d rfl rfl rfl (s_pickF rfl rfl rfl) ?_
    refine r_end ?_
    refine g_sB 29 rfl hr (fun h29_4 hr => ?_) (fun h29_4 hr => ?_)
    ·
     refine g_condT rfl ?_
     refine g_seq ?_
     refine g_run (by kernel_rfl) [(0, .d)] rfl ?_
     refine r_d rfl rfl rfl (s_assign rfl rfl) ?_
     refine r_end ?_
     obtain rfl := Option.some.inj hr
     refine g_ret Try.func7 _ (.cons (resTmp rfl (Wk.refl _)) .nil) ?_
     rfl
    ·
     refine g_condF rfl ?_
     refine g_skip ?_
     refine g_seq ?_
     refine g_run (by kernel_rfl) [(0, .d), (1, .d), (2, .d), (3, .d), (4, .d), (5, .d), (6, .d)] rfl ?_
     refine r_d rfl rfl rfl (s_load rfl rfl (by exact ty_api_Program) (sz_S_api_Program _)) ?_
     obtain ⟨r_6, hr_6, hr⟩ := bindS hr
     refine r_d rfl rfl rfl (s_callD rfl cl_scope_Check (.cons rfl (Wk.refl _) .nil) (lg_scope_Check _ _ hr_6)) ?_
     refine r_d rfl rfl rfl (s_move rfl rfl) ?_
     refine r_d rfl rfl rfl (s_extract rfl rfl rfl) ?_
     refine r_d rfl rfl rfl (s_extract rfl rfl rfl) ?_
     refine r_d rfl rfl rfl (s_assign rfl rfl) ?_
     refine r_d rfl rfl rfl (s_assign rfl rfl) ?_
     refine r_end ?_
     refine g_seq ?_
     refine g_seq ?_
     refine g_run (by kernel_rfl) [(0, .d), (1, .d)] rfl ?_
     refine r_d rfl rfl rfl (s_move rfl rfl) ?_
     refine r_d rfl rfl rfl (s_cmp rfl rfl rfl rfl) ?_
     refine r_end ?_
     refine g_sB 36 rfl hr (fun h36_6 hr => ?_) (fun h36_6 hr => ?_)
     ·
      refine g_condT rfl ?_
      refine g_seq ?_
      refine g_run (by kernel_rfl) [(0, .d)] rfl ?_
      refine r_d rfl rfl rfl (s_assign rfl rfl) ?_
      refine r_end ?_
      obtain rfl := Option.some.inj hr
      refine g_ret Try.func7 _ (.cons (resTmp rfl (Wk.refl _)) .nil) ?_
      rfl
     ·
      refine g_condF rfl ?_
      refine g_skip ?_
      refine g_seq ?_
      obtain ⟨l_9, hl_9, hr⟩ := bindS hr
      refine g_plan (by kernel_rfl) (by kernel_rfl) [(0, .d), (1, .d), (3, .d), (4, .d)] (.cons 2 [] (.cons 5 [(6, .d)] (.cons 7 [] (.cons 8 [] .nil .nil) .nil) (.cons 7 [] (.cons 5 [(6, .d)] (.cons 8 [] .nil .nil) .nil) .nil)) (.cons 7 [] (.cons 2 [] (.cons 5 [(6, .d)] (.cons 8 [] .nil .nil) .nil) .nil) .nil)) (by kernel_rfl) (fun env σ => ∃ (b9_r8_7 : Nat) (u42_r8_7 : Value), Sub [(1, .int .i64 which_a1), (3, .ptr (enc_S_api_Program p_a0)), (5, .ptr (enc_S_api_Decl more_a2)), (9, .ref b9_r8_7 0 [])] env ∧ σ.Perm [.cell b9_r8_7 (.agg [.lst (p_a0.f0_Decls.map enc_S_api_Decl), .lst (l_9.map enc_S_api_Rule)]), .row u42_r8_7 l_9.length 35 6]) ?_ ?_
      ·
       refine r_d rfl rfl rfl (s_fieldAddr rfl fl_api_Program_0 rfl rfl rfl rfl) ?_
       refine r_d rfl rfl rfl (s_load rfl rfl (by exact ty_L_api_Decl) rfl) ?_
       refine r_d rfl rfl rfl (s_fieldAddr rfl fl_api_Program_1 rfl rfl rfl rfl) ?_
       refine r_d rfl rfl rfl (s_load rfl rfl (by exact ty_L_api_Rule) rfl) ?_
       refine r_end ?_
       refine p_alt ?_ ?_
       ·
        refine r_w rfl rfl rfl (s_lit0Own rfl el_L_api_Rule rfl) ?_
        rintro _ _ ⟨u39_r8_7, rfl, rfl⟩
        refine r_end ?_
        refine p_alt ?_ ?_
        ·
         refine r_w rfl rfl rfl (m_appOwn (f := enc_S_api_Rule) [] p_a0.f1_Rules rfl el_L_api_Rule rfl rfl (asl rfl) (pf0 _) rfl sz_S_api_Rule hl_9) ?_
         rintro _ _ ⟨u42_r8_7, rfl, rfl⟩
         refine r_d rfl rfl rfl (s_build rfl bt_api_Program (.cons rfl (Wk.refl _) (.cons rfl (Wk.own _ _) .nil)) (.cons rfl rfl rfl (.cons rfl rfl rfl (.nil _)))) ?_
         refine r_end ?_
         refine p_alt ?_ p_no
         refine r_w rfl rfl rfl (s_alloc rfl zv_api_Program) ?_
         rintro _ _ ⟨b9_r8_7, rfl, rfl⟩
         refine r_end ?_
         refine p_alt ?_ p_no
         refine r_w01 rfl rfl rfl (t_store0 _ rfl rfl rfl (Wk.refl _) (pf0 _) (by exact ty_api_Program) rfl rfl rfl) ?_
         refine r_end ?_
         refine p_end ?_
         exact ⟨b9_r8_7, u42_r8_7, (Sub.cons' rfl (Sub.cons' rfl (Sub.cons' rfl (Sub.cons' rfl (Sub.nil _))))), ((pf1 _ _ _).trans (pf1 _ _ _))⟩
        refine p_alt ?_ p_no
        refine r_w rfl rfl rfl (s_alloc rfl zv_api_Program) ?_
        rintro _ _ ⟨b9_r8_7, rfl, rfl⟩
        refine r_end ?_
        refine p_alt ?_ p_no
        refine r_w rfl rfl rfl (m_appOwn (f := enc_S_api_Rule) [] p_a0.f1_Rules rfl el_L_api_Rule rfl rfl (asl rfl) (pf1 _ _ _) rfl sz_S_api_Rule hl_9) ?_
        rintro _ _ ⟨u42_r8_7, rfl, rfl⟩
        refine r_d rfl rfl rfl (s_build rfl bt_api_Program (.cons rfl (Wk.refl _) (.cons rfl (Wk.own _ _) .nil)) (.cons rfl rfl rfl (.cons rfl rfl rfl (.nil _)))) ?_
        refine r_end ?_
        refine p_alt ?_ p_no
        refine r_w01 rfl rfl rfl (t_store0 _ rfl rfl rfl (Wk.refl _) (pf1 _ _ _) (by exact ty_api_Program) rfl rfl rfl) ?_
        refine r_end ?_
        refine p_end ?_
        exact ⟨b9_r8_7, u42_r8_7, (Sub.cons' rfl (Sub.cons' rfl (Sub.cons' rfl (Sub.cons' rfl (Sub.nil _))))), ((pf1 _ _ _).trans (pf1 _ _ _))⟩
       refine p_alt ?_ p_no
       refine r_w rfl rfl rfl (s_alloc rfl zv_api_Program) ?_
       rintro _ _ ⟨b9_r8_7, rfl, rfl⟩
       refine r_end ?_
       refine p_alt ?_ p_no
       refine r_w rfl rfl rfl (s_lit0Own rfl el_L_api_Rule rfl) ?_
       rintro _ _ ⟨u39_r8_7, rfl, rfl⟩
       refine r_end ?_
       refine p_alt ?_ p_no
       refine r_w rfl rfl rfl (m_appOwn (f := enc_S_api_Rule) [] p_a0.f1_Rules rfl el_L_api_Rule rfl rfl (asl rfl) (pf0 _) rfl sz_S_api_Rule hl_9) ?_
       rintro _ _ ⟨u42_r8_7, rfl, rfl⟩
       refine r_d rfl rfl rfl (s_build rfl bt_api_Program (.cons rfl (Wk.refl _) (.cons rfl (Wk.own _ _) .nil)) (.cons rfl rfl rfl (.cons rfl rfl rfl (.nil _)))) ?_
       refine r_end ?_
       refine p_alt ?_ p_no
       refine r_w01 rfl rfl rfl (t_store0 _ rfl rfl rfl (Wk.refl _) (pf1 _ _ _) (by exact ty_api_Program) rfl rfl rfl) ?_
       refine r_end ?_
       refine p_end ?_
       exact ⟨b9_r8_7, u42_r8_7, (Sub.cons' rfl (Sub.cons' rfl (Sub.cons' rfl (Sub.cons' rfl (Sub.nil _))))), ((pf1 _ _ _).trans (pf1 _ _ _))⟩
      ·
       rintro _ _ ⟨b9_r8_7, u42_r8_7, hs, hp⟩
       refine g_ends hs hp ?_
       obtain ⟨kkJ0, hkkJ0, hr⟩ := exK (fun k => lf_constraintlaw15_ScopeLess_J0 k l_9 p_a0 which_a1) hr
       refine g_seqJ (fun env σ => ∃ (less_10 : S_api_Program), env = [(3, .ptr (enc_S_api_Program p_a0)), (5, .ptr (enc_S_api_Decl more_a2)), (9, .ref b9_r8_7 0 [])] ∧ σ = [.cell b9_r8_7 (enc_S_api_Program less_10)] ∧ kkJ0 less_10 = some res) ?_ (fun HKJ0 => ?_)
       ·
        rintro _ _ ⟨less_10, rfl, rfl, hr⟩
        rw [hkkJ0] at hr
        refine g_seq ?_
        refine g_nilRow 50 2 ?_
        refine g_run (by kernel_rfl) [(0, .d), (1, .d), (2, .d), (3, .w), (4, .w)] rfl ?_
        refine r_d rfl rfl rfl (s_fieldAddr rfl fl_api_Program_1 rfl rfl rfl rfl) ?_
        refine r_d rfl rfl rfl (s_load rfl rfl (by exact ty_L_api_Rule) rfl) ?_
        refine r_d rfl rfl rfl (s_build rfl bo_api_Program_0 (.cons rfl (Wk.refl _) .nil) (.cons rfl rfl rfl (.nil _))) ?_
        refine r_w rfl rfl rfl (s_alloc rfl zv_api_Program) ?_
        rintro _ _ ⟨b11_10, rfl, rfl⟩
        refine r_w01 rfl rfl rfl (t_store0 _ rfl rfl rfl (Wk.refl _) (pf0 _) (by exact ty_api_Program) rfl rfl rfl) ?_
        refine r_end ?_
        refine g_seq ?_
        refine g_seq ?_
        refine g_run (by kernel_rfl) [(0, .d), (1, .d), (2, .d), (3, .d), (4, .d)] rfl ?_
        refine r_d rfl rfl rfl (s_fieldAddr rfl fl_api_Program_0 rfl rfl rfl rfl) ?_
        refine r_d rfl rfl rfl (s_load rfl rfl (by exact ty_L_api_Decl) rfl) ?_
        refine r_d rfl rfl rfl (m_len (f := enc_S_api_Decl) p_a0.f0_Decls rfl el_L_api_Decl rfl (asl rfl)) ?_
        refine r_d rfl rfl rfl (s_arW rfl rfl rfl rfl) ?_
        refine r_d rfl rfl rfl (s_assign rfl rfl) ?_
        refine r_end ?_
        obtain ⟨m_36, hm_36, hr⟩ := bindS hr
        have hm_36' := downO_some hm_36
        obtain ⟨kk0, hkk0, hr⟩ := exK (fun k => lf_constraintlaw15_ScopeLess_L0 k p_a0 m_36 [] p_a0.f1_Rules) hr
        refine g_blockJ (fun env σ => ∃ (turned_17 : (List S_api_Decl)) (turned_18 : (List S_api_Rule)) (u_16 : Value), env = [(3, .ptr (enc_S_api_Program p_a0)), (5, .ptr (enc_S_api_Decl more_a2)), (9, .ref b9_r8_7 0 []), (11, .ref b11_10 0 [])] ∧ σ = [.cell b9_r8_7 (enc_S_api_Program less_10), .cell b11_10 (.agg [.own u_16 (turned_17.map enc_S_api_Decl), .lst (turned_18.map enc_S_api_Rule)]), .row u_16 turned_17.length 50 2] ∧ kk0 turned_17 turned_18 = some res) ?_ (fun HK0 => ?_)
        ·
         rintro _ _ ⟨turned_17, turned_18, u_16, rfl, rfl, hr⟩
         rw [hkk0] at hr
         refine g_seq ?_
         obtain ⟨l_20, hl_20, hr⟩ := bindS hr
         obtain ⟨l_21, hl_21, hr⟩ := bindS hr
         refine g_plan (by kernel_rfl) (by kernel_rfl) [(1, .d), (2, .d), (4, .d), (5, .d), (7, .d), (8, .d)] (.cons 0 [] (.cons 3 [] (.cons 6 [(9, .d)] (.cons 10 [] (.cons 11 [] .nil .nil) .nil) (.cons 10 [] (.cons 6 [(9, .d)] (.cons 11 [] .nil .nil) .nil) .nil)) (.cons 10 [] (.cons 3 [] (.cons 6 [(9, .d)] (.cons 11 [] .nil .nil) .nil) .nil) .nil)) (.cons 10 [] (.cons 0 [] (.cons 3 [] (.cons 6 [(9, .d)] (.cons 11 [] .nil .nil) .nil) .nil) .nil) .nil)) (by kernel_rfl) (fun env σ => ∃ (b13_r17_18 : Nat) (u96_r17_18 : Value), Sub [(3, .ptr (enc_S_api_Program p_a0)), (5, .ptr (enc_S_api_Decl more_a2)), (9, .ref b9_r8_7 0 []), (11, .ref b11_10 0 []), (13, .ref b13_r17_18 0 [])] env ∧ σ.Perm [.cell b13_r17_18 (.agg [.lst (l_21.map enc_S_api_Decl), .lst (p_a0.f1_Rules.map enc_S_api_Rule)]), .row u96_r17_18 l_21.length 50 2, .cell b9_r8_7 (enc_S_api_Program less_10), .cell b11_10 (.agg [.own u_16 (turned_17.map enc_S_api_Decl), .lst (turned_18.map enc_S_api_Rule)]), .row u_16 turned_17.length 50 2]) ?_ ?_
         ·
          refine r_d rfl rfl rfl (s_fieldAddr rfl fl_api_Program_0 rfl rfl rfl rfl) ?_
          refine r_d rfl rfl rfl (s_load rfl rfl (by exact ty_L_api_Decl) rfl) ?_
          refine r_d rfl rfl rfl (s_load rfl rfl (by exact ty_api_Decl) (sz_S_api_Decl _)) ?_
          refine r_d rfl rfl rfl (m_lit (f := enc_S_api_Decl) [.tmp 94] [more_a2] rfl el_L_api_Decl rfl rfl (by decide) (by decide) (.cons rfl (Wk.refl _) .nil) sz_S_api_Decl (fun _ => rfl)) ?_
          refine r_d rfl rfl rfl (s_fieldAddr rfl fl_api_Program_1 rfl rfl rfl rfl) ?_
          refine r_d rfl rfl rfl (s_load rfl rfl (by exact ty_L_api_Rule) rfl) ?_
          refine r_end ?_
          refine p_alt ?_ ?_
          ·
           refine r_w rfl rfl rfl (s_lit0Own rfl el_L_api_Decl rfl) ?_
           rintro _ _ ⟨u90_r17_18, rfl, rfl⟩
           refine r_end ?_
           refine p_alt ?_ ?_
           ·
            refine r_w rfl rfl rfl (m_appOwn (f := enc_S_api_Decl) [] p_a0.f0_Decls rfl el_L_api_Decl rfl rfl (asl rfl) (pf0 _) rfl sz_S_api_Decl hl_20) ?_
            rintro _ _ ⟨u93_r17_18, rfl, rfl⟩
            refine r_end ?_
            refine p_alt ?_ ?_
            ·
             refine r_w rfl rfl rfl (m_appOwn (f := enc_S_api_Decl) l_20 [more_a2] rfl el_L_api_Decl rfl rfl (asl rfl) (pf0 _) rfl sz_S_api_Decl hl_21) ?_
             rintro _ _ ⟨u96_r17_18, rfl, rfl⟩
             refine r_d rfl rfl rfl (s_build rfl bt_api_Program (.cons rfl (Wk.own _ _) (.cons rfl (Wk.refl _) .nil)) (.cons rfl rfl rfl (.cons rfl rfl rfl (.nil _)))) ?_
             refine r_end ?_
             refine p_alt ?_ p_no
             refine r_w rfl rfl rfl (s_alloc rfl zv_api_Program) ?_
             rintro _ _ ⟨b13_r17_18, rfl, rfl⟩
             refine r_end ?_
             refine p_alt ?_ p_no
             refine r_w01 rfl rfl rfl (t_store0 _ rfl rfl rfl (Wk.refl _) (pf0 _) (by exact ty_api_Program) rfl rfl rfl) ?_
             refine r_end ?_
             refine p_end ?_
             exact ⟨b13_r17_18, u96_r17_18, (Sub.cons' rfl (Sub.cons' rfl (Sub.cons' rfl (Sub.cons' rfl (Sub.cons' rfl (Sub.nil _)))))), (((((pf4 _ _ _ _ _ _).trans (pf4 _ _ _ _ _ _)).trans (pf4 _ _ _ _ _ _)).trans (pf4 _ _ _ _ _ _)).trans (pf4 _ _ _ _ _ _))⟩
            refine p_alt ?_ p_no
            refine r_w rfl rfl rfl (s_alloc rfl zv_api_Program) ?_
            rintro _ _ ⟨b13_r17_18, rfl, rfl⟩
            refine r_end ?_
            refine p_alt ?_ p_no
            refine r_w rfl rfl rfl (m_appOwn (f := enc_S_api_Decl) l_20 [more_a2] rfl el_L_api_Decl rfl rfl (asl rfl) (pf1 _ _ _) rfl sz_S_api_Decl hl_21) ?_
            rintro _ _ ⟨u96_r17_18, rfl, rfl⟩
            refine r_d rfl rfl rfl (s_build rfl bt_api_Program (.cons rfl (Wk.own _ _) (.cons rfl (Wk.refl _) .nil)) (.cons rfl rfl rfl (.cons rfl rfl rfl (.nil _)))) ?_
            refine r_end ?_
            refine p_alt ?_ p_no
            refine r_w01 rfl rfl rfl (t_store0 _ rfl rfl rfl (Wk.refl _) (pf1 _ _ _) (by exact ty_api_Program) rfl rfl rfl) ?_
            refine r_end ?_
            refine p_end ?_
            exact ⟨b13_r17_18, u96_r17_18, (Sub.cons' rfl (Sub.cons' rfl (Sub.cons' rfl (Sub.cons' rfl (Sub.cons' rfl (Sub.nil _)))))), (((((pf4 _ _ _ _ _ _).trans (pf4 _ _ _ _ _ _)).trans (pf4 _ _ _ _ _ _)).trans (pf4 _ _ _ _ _ _)).trans (pf4 _ _ _ _ _ _))⟩
           refine p_alt ?_ p_no
           refine r_w rfl rfl rfl (s_alloc rfl zv_api_Program) ?_
           rintro _ _ ⟨b13_r17_18, rfl, rfl⟩
           refine r_end ?_
           refine p_alt ?_ p_no
           refine r_w rfl rfl rfl (m_appOwn (f := enc_S_api_Decl) [] p_a0.f0_Decls rfl el_L_api_Decl rfl rfl (asl rfl) (pf1 _ _ _) rfl sz_S_api_Decl hl_20) ?_
           rintro _ _ ⟨u93_r17_18, rfl, rfl⟩
           refine r_end ?_
           refine p_alt ?_ p_no
           refine r_w rfl rfl rfl (m_appOwn (f := enc_S_api_Decl) l_20 [more_a2] rfl el_L_api_Decl rfl rfl (asl rfl) (pf0 _) rfl sz_S_api_Decl hl_21) ?_
           rintro _ _ ⟨u96_r17_18, rfl, rfl⟩
           refine r_d rfl rfl rfl (s_build rfl bt_api_Program (.cons rfl (Wk.own _ _) (.cons rfl (Wk.refl _) .nil)) (.cons rfl rfl rfl (.cons rfl rfl rfl (.nil _)))) ?_
           refine r_end ?_
           refine p_alt ?_ p_no
           refine r_w01 rfl rfl rfl (t_store0 _ rfl rfl rfl (Wk.refl _) (pf1 _ _ _) (by exact ty_api_Program) rfl rfl rfl) ?_
           refine r_end ?_
           refine p_end ?_
           exact ⟨b13_r17_18, u96_r17_18, (Sub.cons' rfl (Sub.cons' rfl (Sub.cons' rfl (Sub.cons' rfl (Sub.cons' rfl (Sub.nil _)))))), (((((pf4 _ _ _ _ _ _).trans (pf4 _ _ _ _ _ _)).trans (pf4 _ _ _ _ _ _)).trans (pf4 _ _ _ _ _ _)).trans (pf4 _ _ _ _ _ _))⟩
          refine p_alt ?_ p_no
          refine r_w rfl rfl rfl (s_alloc rfl zv_api_Program) ?_
          rintro _ _ ⟨b13_r17_18, rfl, rfl⟩
          refine r_end ?_
          refine p_alt ?_ p_no
          refine r_w rfl rfl rfl (s_lit0Own rfl el_L_api_Decl rfl) ?_
          rintro _ _ ⟨u90_r17_18, rfl, rfl⟩
          refine r_end ?_
          refine p_alt ?_ p_no
          refine r_w rfl rfl rfl (m_appOwn (f := enc_S_api_Decl) [] p_a0.f0_Decls rfl el_L_api_Decl rfl rfl (asl rfl) (pf0 _) rfl sz_S_api_Decl hl_20) ?_
          rintro _ _ ⟨u93_r17_18, rfl, rfl⟩
          refine r_end ?_
          refine p_alt ?_ p_no
          refine r_w rfl rfl rfl (m_appOwn (f := enc_S_api_Decl) l_20 [more_a2] rfl el_L_api_Decl rfl rfl (asl rfl) (pf0 _) rfl sz_S_api_Decl hl_21) ?_
          rintro _ _ ⟨u96_r17_18, rfl, rfl⟩
          refine r_d rfl rfl rfl (s_build rfl bt_api_Program (.cons rfl (Wk.own _ _) (.cons rfl (Wk.refl _) .nil)) (.cons rfl rfl rfl (.cons rfl rfl rfl (.nil _)))) ?_
          refine r_end ?_
          refine p_alt ?_ p_no
          refine r_w01 rfl rfl rfl (t_store0 _ rfl rfl rfl (Wk.refl _) (pf1 _ _ _) (by exact ty_api_Program) rfl rfl rfl) ?_
          refine r_end ?_
          refine p_end ?_
          exact ⟨b13_r17_18, u96_r17_18, (Sub.cons' rfl (Sub.cons' rfl (Sub.cons' rfl (Sub.cons' rfl (Sub.cons' rfl (Sub.nil _)))))), (((((pf4 _ _ _ _ _ _).trans (pf4 _ _ _ _ _ _)).trans (pf4 _ _ _ _ _ _)).trans (pf4 _ _ _ _ _ _)).trans (pf4 _ _ _ _ _ _))⟩
         ·
          rintro _ _ ⟨b13_r17_18, u96_r17_18, hs, hp⟩
          refine g_ends hs hp ?_
          refine g_freeze 13 b13_r17_18 rfl (pf0 _) ?_
          refine g_seq ?_
          refine g_run (by kernel_rfl) [(0, .r), (1, .d), (2, .d), (3, .d), (4, .d), (5, .d), (6, .d)] rfl ?_
          refine r_r rfl rfl rfl (t_loadRef rfl rfl (.tail _ (.head _)) rfl rfl (by exact ty_api_Program) (sz_S_api_Program _)) ?_
          obtain ⟨r_22, hr_22, hr⟩ := bindS hr
          refine r_d rfl rfl rfl (s_callD rfl cl_scope_Check (.cons rfl (Wk.refl _) .nil) (lg_scope_Check _ _ hr_22)) ?_
          refine r_d rfl rfl rfl (s_move rfl rfl) ?_
          refine r_d rfl rfl rfl (s_extract rfl rfl rfl) ?_
          refine r_d rfl rfl rfl (s_extract rfl rfl rfl) ?_
          refine r_d rfl rfl rfl (s_assign rfl rfl) ?_
          refine r_d rfl rfl rfl (s_assign rfl rfl) ?_
          refine r_end ?_
          refine g_seq ?_
          refine g_run (by kernel_rfl) [(0, .r), (1, .d), (2, .d), (3, .d), (4, .d), (5, .d), (6, .d)] rfl ?_
          refine r_r rfl rfl rfl (t_loadRef rfl rfl (.tail _ (.tail _ (.head _))) rfl rfl (by exact ty_api_Program) rfl) ?_
          obtain ⟨r_23, hr_23, hr⟩ := bindS hr
          refine r_d rfl rfl rfl (s_callD rfl cl_scope_Check (by exact (.cons rfl (Wk.agg (.cons (Wk.own _ _) (.cons (Wk.refl _) .nil))) .nil)) (lg_scope_Check _ _ hr_23)) ?_
          refine r_d rfl rfl rfl (s_move rfl rfl) ?_
          refine r_d rfl rfl rfl (s_extract rfl rfl rfl) ?_
          refine r_d rfl rfl rfl (s_extract rfl rfl rfl) ?_
          refine r_d rfl rfl rfl (s_assign rfl rfl) ?_
          refine r_d rfl rfl rfl (s_assign rfl rfl) ?_
          refine r_end ?_
          refine g_seq ?_
          refine g_run (by kernel_rfl) [(0, .d), (1, .d), (2, .d), (3, .d), (4, .d), (5, .d), (6, .d)] rfl ?_
          refine r_d rfl rfl rfl (s_load rfl rfl (by exact ty_api_Program) rfl) ?_
          obtain ⟨r_24, hr_24, hr⟩ := bindS hr
          refine r_d rfl rfl rfl (s_callD rfl cl_scope_Check (.cons rfl (Wk.refl _) .nil) (lg_scope_Check _ _ hr_24)) ?_
          refine r_d rfl rfl rfl (s_move rfl rfl) ?_
          refine r_d rfl rfl rfl (s_extract rfl rfl rfl) ?_
          refine r_d rfl rfl rfl (s_extract rfl rfl rfl) ?_
          refine r_d rfl rfl rfl (s_assign rfl rfl) ?_
          refine r_d rfl rfl rfl (s_assign rfl rfl) ?_
          refine r_end ?_
          refine g_seq ?_
          refine g_seq ?_
          refine g_run (by kernel_rfl) [(0, .d), (1, .d), (2, .d), (3, .d), (4, .d), (5, .d)] rfl ?_
          refine r_d rfl rfl rfl (s_move rfl rfl) ?_
          refine r_d rfl rfl rfl (s_cmp rfl rfl rfl rfl) ?_
          refine r_d rfl rfl rfl (s_move rfl rfl) ?_
          refine r_sB 117 rfl hr (fun h117_24 hr => ?_) (fun h117_24 hr => ?_)
          ·
           refine r_skip rfl rfl rfl ?_
           refine r_skip rfl rfl rfl ?_
           refine r_d rfl rfl rfl (s_pickT rfl rfl rfl) ?_
           refine r_end ?_
           refine g_condT rfl ?_
           refine g_seq ?_
           refine g_run (by kernel_rfl) [(0, .d)] rfl ?_
           refine r_d rfl rfl rfl (s_assign rfl rfl) ?_
           refine r_end ?_
           obtain rfl := Option.some.inj hr
           refine g_ret Try.func7 _ (.cons (resTmp rfl (Wk.refl _)) .nil) ?_
           rfl
          ·
           refine r_d rfl rfl rfl (s_move rfl rfl) ?_
           refine r_d rfl rfl rfl (s_cmp rfl rfl rfl rfl) ?_
           refine r_d rfl rfl rfl (s_pickF rfl rfl rfl) ?_
           refine r_end ?_
           refine g_sB 120 rfl hr (fun h120_25 hr => ?_) (fun h120_25 hr => ?_)
           ·
            refine g_condT rfl ?_
            refine g_seq ?_
            refine g_run (by kernel_rfl) [(0, .d)] rfl ?_
            refine r_d rfl rfl rfl (s_assign rfl rfl) ?_
            refine r_end ?_
            obtain rfl := Option.some.inj hr
            refine g_ret Try.func7 _ (.cons (resTmp rfl (Wk.refl _)) .nil) ?_
            rfl
           ·
            refine g_condF rfl ?_
            refine g_skip ?_
            refine g_seq ?_
            refine g_seq ?_
            refine g_run (by kernel_rfl) [(0, .d), (1, .d)] rfl ?_
            refine r_d rfl rfl rfl (s_move rfl rfl) ?_
            refine r_d rfl rfl rfl (s_cmp rfl rfl rfl rfl) ?_
            refine r_end ?_
            refine g_sB 122 rfl hr (fun h122_26 hr => ?_) (fun h122_26 hr => ?_)
            ·
             refine g_condT rfl ?_
             refine g_seq ?_
             refine g_run (by kernel_rfl) [(0, .d), (1, .d), (2, .d), (3, .d), (4, .d), (5, .d), (6, .d), (7, .d), (8, .d)] rfl ?_
             refine r_d rfl rfl rfl (s_fieldAddr rfl fl_api_Program_0 rfl rfl rfl rfl) ?_
             refine r_d rfl rfl rfl (s_load rfl rfl (by exact ty_L_api_Decl) rfl) ?_
             refine r_d rfl rfl rfl (s_fieldAddr rfl fl_api_Decl_0 rfl rfl rfl rfl) ?_
             refine r_d rfl rfl rfl (s_load rfl rfl (by exact ty_string) rfl) ?_
             refine r_d rfl rfl rfl (s_fieldAddr rfl fl_api_Decl_1 rfl rfl rfl rfl) ?_
             refine r_d rfl rfl rfl (s_load rfl rfl (by exact ty_int) rfl) ?_
             obtain ⟨r_28, hr_28, hr⟩ := bindS hr
             refine r_d rfl rfl rfl (s_callD rfl cl_scope_Declared (.cons rfl (Wk.refl _) (.cons rfl (Wk.refl _) (.cons rfl (Wk.refl _) .nil))) (lg_scope_Declared _ _ _ _ hr_28)) ?_
             refine r_d rfl rfl rfl (s_not rfl rfl) ?_
             refine r_d rfl rfl rfl (s_assign rfl rfl) ?_
             refine r_end ?_
             obtain rfl := Option.some.inj hr
             refine g_ret Try.func7 _ (.cons (resTmp rfl (Wk.refl _)) .nil) ?_
             rfl
            ·
             refine g_condF rfl ?_
             refine g_skip ?_
             refine g_seq ?_
             refine g_run (by kernel_rfl) [(0, .d), (1, .d), (2, .d), (3, .d), (4, .d), (5, .d), (6, .d), (7, .d), (8, .d), (9, .d), (10, .d), (11, .d), (12, .d), (13, .d), (14, .d), (15, .d), (16, .d), (17, .d), (18, .d), (19, .d)] rfl ?_
             refine r_d rfl rfl rfl (s_move rfl rfl) ?_
             refine r_d rfl rfl rfl (s_cmp rfl rfl rfl rfl) ?_
             refine r_d rfl rfl rfl (s_move rfl rfl) ?_
             refine r_sB 133 rfl hr (fun h133_28 hr => ?_) (fun h133_28 hr => ?_)
             ·
              refine r_d rfl rfl rfl (s_move rfl rfl) ?_
              refine r_d rfl rfl rfl (s_cmp rfl rfl rfl rfl) ?_
              refine r_d rfl rfl rfl (s_fieldAddr rfl fl_api_Program_0 rfl rfl rfl rfl) ?_
              refine r_d rfl rfl rfl (s_load rfl rfl (by exact ty_L_api_Decl) rfl) ?_
              refine r_d rfl rfl rfl (m_len (f := enc_S_api_Decl) p_a0.f0_Decls rfl el_L_api_Decl rfl (asl rfl)) ?_
              refine r_d rfl rfl rfl (s_cmp rfl rfl rfl rfl) ?_
              refine r_d rfl rfl rfl (s_cmpB rfl Try.underlying4 rfl rfl) ?_
              refine r_d rfl rfl rfl (s_pickT rfl rfl rfl) ?_
              refine r_d rfl rfl rfl (s_move rfl rfl) ?_
              refine r_sB 142 rfl hr (fun h142_29 hr => ?_) (fun h142_29 hr => ?_)
              ·
               refine r_d rfl rfl rfl (s_move rfl rfl) ?_
               refine r_d rfl rfl rfl (s_cmp rfl rfl rfl rfl) ?_
               refine r_d rfl rfl rfl (s_pickT rfl rfl rfl) ?_
               refine r_d rfl rfl rfl (s_move rfl rfl) ?_
               refine r_sB 146 rfl hr (fun h146_30 hr => ?_) (fun h146_30 hr => ?_)
               ·
                refine r_d rfl rfl rfl (s_move rfl rfl) ?_
                refine r_d rfl rfl rfl (s_cmp rfl rfl rfl rfl) ?_
                refine r_d rfl rfl rfl (s_pickT rfl rfl rfl) ?_
                refine r_d rfl rfl rfl (s_assign rfl rfl) ?_
                refine r_end ?_
                obtain rfl := Option.some.inj hr
                refine g_ret Try.func7 _ (.cons (resTmp rfl (Wk.refl _)) .nil) ?_
                rfl
               ·
                refine r_skip rfl rfl rfl ?_
                refine r_skip rfl rfl rfl ?_
                refine r_d rfl rfl rfl (s_pickF rfl rfl rfl) ?_
                refine r_d rfl rfl rfl (s_assign rfl rfl) ?_
                refine r_end ?_
                obtain rfl := Option.some.inj hr
                refine g_ret Try.func7 _ (.cons (resTmp rfl (Wk.refl _)) .nil) ?_
                rfl
              ·
               refine r_skip rfl rfl rfl ?_
               refine r_skip rfl rfl rfl ?_
               refine r_d rfl rfl rfl (s_pickF rfl rfl rfl) ?_
               refine r_d rfl rfl rfl (s_move rfl rfl) ?_
               refine r_skip rfl rfl rfl ?_
               refine r_skip rfl rfl rfl ?_
               refine r_d rfl rfl rfl (s_pickF rfl rfl rfl) ?_
               refine r_d rfl rfl rfl (s_assign rfl rfl) ?_
               refine r_end ?_
               obtain rfl := Option.some.inj hr
               refine g_ret Try.func7 _ (.cons (resTmp rfl (Wk.refl _)) .nil) ?_
               rfl
             ·
              refine r_skip rfl rfl rfl ?_
              refine r_skip rfl rfl rfl ?_
              refine r_skip rfl rfl rfl ?_
              refine r_skip rfl rfl rfl ?_
              refine r_skip rfl rfl rfl ?_
              refine r_skip rfl rfl rfl ?_
              refine r_skip rfl rfl rfl ?_
              refine r_d rfl rfl rfl (s_pickF rfl rfl rfl) ?_
              refine r_d rfl rfl rfl (s_move rfl rfl) ?_
              refine r_skip rfl rfl rfl ?_
              refine r_skip rfl rfl rfl ?_
              refine r_d rfl rfl rfl (s_pickF rfl rfl rfl) ?_
              refine r_d rfl rfl rfl (s_move rfl rfl) ?_
              refine r_skip rfl rfl rfl ?_
              refine r_skip rfl rfl rfl ?_
              refine r_d rfl rfl rfl (s_pickF rfl rfl rfl) ?_
              refine r_d rfl rfl rfl (s_assign rfl rfl) ?_
              refine r_end ?_
              obtain rfl := Option.some.inj hr
              refine g_ret Try.func7 _ (.cons (resTmp rfl (Wk.refl _)) .nil) ?_
              rfl
        ·
         refine g_eqD 12 (d' := .int .i64 ((m_36 : Int) - 1)) rfl (congrArg (D.int .i64) hm_36') ?_
         refine g_sub [(3, .ptr (enc_S_api_Program p_a0)), (5, .ptr (enc_S_api_Decl more_a2)), (9, .ref b9_r8_7 0 []), (11, .ref b11_10 0 []), (12, .int .i64 ((m_36 : Int) - 1))] (Sub.cons' rfl (Sub.cons' rfl (Sub.cons' rfl (Sub.cons' rfl (Sub.cons' rfl (Sub.nil _)))))) ?_
         refine g_perm [_, _, _] _ (((pf1 _ _ _).trans (pf1 _ _ _)).trans (pf2 _ _ _ _)) ?_
         refine g_loop (fun n env σ => ∃ (i_13 : Nat) (turned_14 : (List S_api_Decl)) (turned_15 : (List S_api_Rule)) (u_12 : Value), (i_13 = n) ∧ (env = [(3, .ptr (enc_S_api_Program p_a0)), (5, .ptr (enc_S_api_Decl more_a2)), (9, .ref b9_r8_7 0 []), (11, .ref b11_10 0 []), (12, .int .i64 ((i_13 : Int) - 1))]) ∧ (σ = [.cell b9_r8_7 (enc_S_api_Program less_10), .cell b11_10 (.agg [.own u_12 (turned_14.map enc_S_api_Decl), .lst (turned_15.map enc_S_api_Rule)]), .row u_12 turned_14.length 50 2]) ∧ (lf_constraintlaw15_ScopeLess_L0 kk0 p_a0 i_13 turned_14 turned_15 = some res)) _ ⟨m_36, [], p_a0.f1_Rules, (.slice none 0 0 ), rfl, rfl, rfl, hr⟩ ?_
         rintro n _ _ ⟨i_13, turned_14, turned_15, u_12, rfl, rfl, rfl, hr⟩ IH0
         refine g_int 12 rfl fun hb0 => ?_
         rcases downStep i_13 with ⟨hm0, ht0⟩ | ⟨k_32, hm0, ht0⟩
         ·
          rw [hm0, lf_constraintlaw15_ScopeLess_L0] at hr
          refine g_seq ?_
          refine g_seq ?_
          refine g_run (by kernel_rfl) [(0, .d), (1, .d)] rfl ?_
          refine r_d rfl rfl rfl (s_move rfl rfl) ?_
          refine r_d rfl rfl rfl (s_cmp rfl rfl rfl rfl) ?_
          refine r_end ?_
          refine g_known 77 false rfl ht0 ?_
          refine g_condF rfl ?_
          refine g_exit rfl ?_
          refine g_sub [(3, .ptr (enc_S_api_Program p_a0)), (5, .ptr (enc_S_api_Decl more_a2)), (9, .ref b9_r8_7 0 []), (11, .ref b11_10 0 [])] (Sub.cons' rfl (Sub.cons' rfl (Sub.cons' rfl (Sub.cons' rfl (Sub.nil _))))) ?_
          exact HK0 _ _ ⟨turned_14, turned_15, u_12, rfl, rfl, hr⟩
         ·
          rw [hm0, lf_constraintlaw15_ScopeLess_L0] at hr
          have ht0 : decide ((k_32 : Int) ≥ (0 : Int)) = true := decide_eq_true (by omega)
          refine g_eqD 12 (d' := .int .i64 (k_32 : Int)) rfl (by subst hm0; congr 1; omega) ?_
          refine g_seq ?_
          refine g_seq ?_
          refine g_run (by kernel_rfl) [(0, .d), (1, .d)] rfl ?_
          refine r_d rfl rfl rfl (s_move rfl rfl) ?_
          refine r_d rfl rfl rfl (s_cmp rfl rfl rfl rfl) ?_
          refine r_end ?_
          refine g_known 77 true rfl ht0 ?_
          refine g_condT rfl ?_
          refine g_skip ?_
          refine g_seq ?_
          refine g_block ?_
          refine g_any (by kernel_rfl) (by kernel_rfl) [(0, .d), (1, .r), (2, .d), (3, .d), (4, .d), (5, .d), (6, .d), (7, .d), (8, .w), (9, .d), (10, .w)] (by kernel_rfl) ?_
          refine r_d rfl rfl rfl (s_fieldRef rfl fl_api_Program_0 rfl) ?_
          refine r_r rfl rfl rfl (t_loadRef rfl rfl (.tail _ (.head _)) rfl rfl (by exact ty_L_api_Decl) rfl) ?_
          refine r_d rfl rfl rfl (s_fieldAddr rfl fl_api_Program_0 rfl rfl rfl rfl) ?_
          refine r_d rfl rfl rfl (s_load rfl rfl (by exact ty_L_api_Decl) rfl) ?_
          refine r_d rfl rfl rfl (s_move rfl rfl) ?_
          obtain ⟨q_33, hq_33, hr⟩ := bindS hr
          refine r_d rfl rfl rfl (m_index (f := enc_S_api_Decl) p_a0.f0_Decls rfl el_L_api_Decl rfl (asl rfl) rfl hq_33 sz_S_api_Decl rfl) ?_
          refine r_d rfl rfl rfl (s_load rfl rfl (by exact ty_api_Decl) (sz_S_api_Decl _)) ?_
          refine r_d rfl rfl rfl (m_lit (f := enc_S_api_Decl) [.tmp 86] [q_33] rfl el_L_api_Decl rfl rfl (by decide) (by decide) (.cons rfl (Wk.refl _) .nil) sz_S_api_Decl (fun _ => rfl)) ?_
          obtain ⟨l_34, hl_34, hr⟩ := bindS hr
          refine r_w rfl rfl rfl (m_appOwn (f := enc_S_api_Decl) turned_14 [q_33] rfl el_L_api_Decl rfl rfl (asl rfl) (pf2 _ _ _ _) rfl sz_S_api_Decl hl_34) ?_
          rintro _ _ ⟨u88_34, rfl, rfl⟩
          refine r_d rfl rfl rfl (s_fieldRef rfl fl_api_Program_0 rfl) ?_
          refine r_w01 rfl rfl rfl (t_store _ rfl rfl rfl (Wk.refl _) (pf2 _ _ _ _) rfl rfl (by exact ty_L_api_Decl) rfl rfl rfl) ?_
          refine r_end ?_
          refine g_inBlock ?_
          refine g_run (by kernel_rfl) [(0, .d), (1, .d), (2, .d)] rfl ?_
          refine r_d rfl rfl rfl (s_move rfl rfl) ?_
          refine r_d rfl rfl rfl (s_ar (r := (k_32 : Int) - 1) rfl rfl rfl rfl (by omega)) ?_
          refine r_d rfl rfl rfl (s_assign rfl rfl) ?_
          refine r_end ?_
          refine g_sub [(3, .ptr (enc_S_api_Program p_a0)), (5, .ptr (enc_S_api_Decl more_a2)), (9, .ref b9_r8_7 0 []), (11, .ref b11_10 0 []), (12, .int .i64 ((k_32 : Int) - 1))] (Sub.cons' rfl (Sub.cons' rfl (Sub.cons' rfl (Sub.cons' rfl (Sub.cons' rfl (Sub.nil _)))))) ?_
          refine g_perm [_, _, _] _ (((pf1 _ _ _).trans (pf1 _ _ _)).trans (pf2 _ _ _ _)) ?_
          exact IH0 _ _ _ (by omega) ⟨k_32, l_34, turned_15, u88_34, rfl, rfl, rfl, hr⟩
       ·
        unfold lf_constraintlaw15_ScopeLess_J0 at hr
        refine g_seq ?_
        refine g_run (by kernel_rfl) [(0, .d), (1, .d), (2, .d), (3, .d)] rfl ?_
        refine r_d rfl rfl rfl (s_fieldAddr rfl fl_api_Program_1 rfl rfl rfl rfl) ?_
        refine r_d rfl rfl rfl (s_load rfl rfl (by exact ty_L_api_Rule) rfl) ?_
        refine r_d rfl rfl rfl (m_len (f := enc_S_api_Rule) p_a0.f1_Rules rfl el_L_api_Rule rfl (asl rfl)) ?_
        refine r_d rfl rfl rfl (s_cmp rfl rfl rfl rfl) ?_
        refine r_end ?_
        refine g_sB 47 rfl hr (fun h47_36 hr => ?_) (fun h47_36 hr => ?_)
        ·
         refine g_condT rfl ?_
         refine g_seq ?_
         refine g_run (by kernel_rfl) [(0, .d), (1, .d), (2, .d), (3, .d), (4, .d), (5, .d), (6, .d), (7, .d), (8, .d)] rfl ?_
         refine r_d rfl rfl rfl (s_move rfl rfl) ?_
         refine r_d rfl rfl rfl (s_conv rfl Try.underlying3 Try.underlying51 rfl) ?_
         refine r_d rfl rfl rfl (s_fieldAddr rfl fl_api_Program_1 rfl rfl rfl rfl) ?_
         refine r_d rfl rfl rfl (s_load rfl rfl (by exact ty_L_api_Rule) rfl) ?_
         refine r_d rfl rfl rfl (m_len (f := enc_S_api_Rule) p_a0.f1_Rules rfl el_L_api_Rule rfl (asl rfl)) ?_
         refine r_d rfl rfl rfl (s_conv rfl Try.underlying3 Try.underlying51 rfl) ?_
         obtain ⟨m_38, hm_38, hr⟩ := bindS hr
         refine r_d rfl rfl rfl (s_remU rfl rfl rfl hm_38) ?_
         refine r_d rfl rfl rfl (s_conv rfl Try.underlying51 Try.underlying3 rfl) ?_
         refine r_d rfl rfl rfl (s_assign rfl rfl) ?_
         refine r_end ?_
         refine g_any (by kernel_rfl) (by kernel_rfl) [(1, .d), (2, .d), (3, .d), (4, .d), (6, .d), (7, .d), (8, .d), (9, .d), (10, .d), (0, .w), (5, .w), (11, .w), (12, .d), (13, .w)] (by kernel_rfl) ?_
         refine r_d rfl rfl rfl (s_fieldAddr rfl fl_api_Program_1 rfl rfl rfl rfl) ?_
         refine r_d rfl rfl rfl (s_load rfl rfl (by exact ty_L_api_Rule) rfl) ?_
         refine r_d rfl rfl rfl (s_move rfl rfl) ?_
         obtain ⟨l_39, hl_39, hr⟩ := bindS hr
         refine r_d rfl rfl rfl (m_sub (f := enc_S_api_Rule) p_a0.f1_Rules 0 (IntKind.i64.wrap m_38) rfl el_L_api_Rule rfl (asl rfl) bl_none (bh_some rfl) sz_S_api_Rule hl_39) ?_
         refine r_d rfl rfl rfl (s_fieldAddr rfl fl_api_Program_1 rfl rfl rfl rfl) ?_
         refine r_d rfl rfl rfl (s_load rfl rfl (by exact ty_L_api_Rule) rfl) ?_
         refine r_d rfl rfl rfl (s_move rfl rfl) ?_
         refine r_d rfl rfl rfl (s_arW rfl rfl rfl rfl) ?_
         obtain ⟨l_40, hl_40, hr⟩ := bindS hr
         refine r_d rfl rfl rfl (m_sub (f := enc_S_api_Rule) p_a0.f1_Rules (wr ((IntKind.i64.wrap m_38) + (1 : Int))) (p_a0.f1_Rules.length : Int) rfl el_L_api_Rule rfl (asl rfl) (bl_some rfl) bh_none sz_S_api_Rule hl_40) ?_
         refine r_w rfl rfl rfl (s_lit0Own rfl el_L_api_Rule rfl) ?_
         rintro _ _ ⟨u56_40, rfl, rfl⟩
         obtain ⟨l_42, hl_42, hr⟩ := bindS hr
         refine r_w rfl rfl rfl (m_appOwn (f := enc_S_api_Rule) [] l_39 rfl el_L_api_Rule rfl rfl (asl rfl) (pf0 _) rfl sz_S_api_Rule hl_42) ?_
         rintro _ _ ⟨u61_42, rfl, rfl⟩
         obtain ⟨l_44, hl_44, hr⟩ := bindS hr
         refine r_w rfl rfl rfl (m_appOwn (f := enc_S_api_Rule) l_42 l_40 rfl el_L_api_Rule rfl rfl (asl rfl) (pf0 _) rfl sz_S_api_Rule hl_44) ?_
         rintro _ _ ⟨u67_44, rfl, rfl⟩
         refine r_d rfl rfl rfl (s_fieldRef rfl fl_api_Program_1 rfl) ?_
         refine r_w01 rfl rfl rfl (t_store _ rfl rfl rfl (Wk.own _ _) (pf1 _ _ _) rfl rfl (by exact ty_L_api_Rule) rfl rfl rfl) ?_
         refine r_end ?_
         refine g_sub [(3, .ptr (enc_S_api_Program p_a0)), (5, .ptr (enc_S_api_Decl more_a2)), (9, .ref b9_r8_7 0 [])] (Sub.cons' rfl (Sub.cons' rfl (Sub.cons' rfl (Sub.nil _)))) ?_
         refine g_perm [_] _ (pf0 _) ?_
         exact HKJ0 _ _ ⟨(⟨p_a0.f0_Decls, l_44⟩ : S_api_Program), rfl, rfl, hr⟩
        ·
         refine g_condF rfl ?_
         refine g_skip ?_
         refine g_sub [(3, .ptr (enc_S_api_Program p_a0)), (5, .ptr (enc_S_api_Decl more_a2)), (9, .ref b9_r8_7 0 [])] (Sub.cons' rfl (Sub.cons' rfl (Sub.cons' rfl (Sub.nil _)))) ?_
         refine g_perm [_] _ (pf0 _) ?_
         exact HKJ0 _ _ ⟨(⟨p_a0.f0_Decls, l_9⟩ : S_api_Program), rfl, rfl, hr⟩

end Go.Proofs.Ytgndcnknmkcacaa


namespace Go.Proofs.Ytgndcnknmkcacaa
set_option maxRecDepth 100000
open Go.RowKit

/-- What goes through goes through. -/
def Mo (x y : Option (Int ⊕ Unit)) : Prop := x = some (.inr ()) → y = some (.inr ())
theorem Mo.refl (x : Option (Int ⊕ Unit)) : Mo x x := id
theorem Mo.bindX {a a' : Option (Int ⊕ Unit)} {f f' : Unit → Option (Int ⊕ Unit)} (h : Mo a a') (hf : Mo (f ()) (f' ())) : Mo (bindX a f) (bindX a' f') := fun e => by
  rcases bindXS e with ⟨c, _, h2⟩ | ⟨u, h1, h2⟩
  · cases h2
  · rw [h h1]
    exact hf h2
theorem Mo.bind {α : Type} {a : Option α} {f f' : α → Option (Int ⊕ Unit)} (hf : ∀ r, Mo (f r) (f' r)) : Mo (a.bind f) (a.bind f') := by
  cases a with
  | none => exact Mo.refl _
  | some r => exact hf r
theorem Mo.cond {b : Bool} {x x' y y' : Option (Int ⊕ Unit)} (h1 : Mo x x') (h2 : Mo y y') : Mo (bif b then x else y) (bif b then x' else y') := by
  cases b with
  | true => exact h1
  | false => exact h2
theorem any_sub {ds ds' : List S_api_Decl} (h : ∀ d ∈ ds, d ∈ ds') (f : S_api_Decl → Bool) (ha : ds.any f = true) : ds'.any f = true := by
  obtain ⟨d, h1, h2⟩ := List.any_eq_true.1 ha
  exact List.any_eq_true.2 ⟨d, h d h1, h2⟩
theorem declared_val (ds : List S_api_Decl) (s : ByteArray) (n : Int) : lf_scope_declared ds s n = bindX (lf_scope_need (ds.any fun d => d.f0_Name.toList == s.toList) 7) fun _ => bindX (lf_scope_need (decide ((⟨s, n⟩ : S_api_Decl) ∈ ds)) 9) fun _ => some (.inr ()) := by
  obtain ⟨r, e1, e2⟩ := ixf_val s ds 0
  rw [lf_scope_declared, lf_slices_ContainsFunc_s3, lf_slices_IndexFunc_s4, Declared_eq, e1, Option.bind_some, Option.bind_some, e2]
  rfl
theorem need_mono {a b : Bool} {e : Int} (h : a = true → b = true) : Mo (lf_scope_need a e) (lf_scope_need b e) := by
  cases a with
  | true => rw [h rfl]; exact Mo.refl _
  | false => intro h; cases h
section
variable {ds ds' : List S_api_Decl} (hd : ∀ d ∈ ds, d ∈ ds')
include hd
theorem declared_mono (s : ByteArray) (n : Int) : Mo (lf_scope_declared ds s n) (lf_scope_declared ds' s n) := by
  rw [declared_val, declared_val]
  exact .bindX (need_mono (any_sub hd _)) (.bindX (need_mono fun h => decide_eq_true (hd _ (of_decide_eq_true h))) (.refl _))
theorem calls_mono {k k' : Option (Int ⊕ Unit)} (hk : Mo k k') : ∀ l : List Gl, Mo (lf_scope_calls_L0 k ds l) (lf_scope_calls_L0 k' ds' l)
  | [] => by rw [lf_scope_calls_L0, lf_scope_calls_L0]; exact hk
  | g :: l => by
    rw [lf_scope_calls_L0, lf_scope_calls_L0]
    exact .cond (.bindX (declared_mono hd _ _) (calls_mono hk l)) (calls_mono hk l)
theorem l7_mono {k k' : Option (Int ⊕ Unit)} (hk : Mo k k') : ∀ l : List At, Mo (lf_scope_CheckRule_1_L7 k ds l) (lf_scope_CheckRule_1_L7 k' ds' l)
  | [] => by rw [lf_scope_CheckRule_1_L7, lf_scope_CheckRule_1_L7]; exact hk
  | g :: l => by
    rw [lf_scope_CheckRule_1_L7, lf_scope_CheckRule_1_L7]
    exact .bindX (declared_mono hd _ _) (l7_mono hk l)
theorem l3_mono {k k' : Option (Int ⊕ Unit)} (hk : Mo k k') (r : S_api_Rule) : ∀ (n : Nat) (i : Int), Mo (lf_scope_CheckRule_1_L3 k r ds n i) (lf_scope_CheckRule_1_L3 k' r ds' n i)
  | 0, i => by rw [lf_scope_CheckRule_1_L3, lf_scope_CheckRule_1_L3]; exact hk
  | n + 1, i => by
    rw [lf_scope_CheckRule_1_L3, lf_scope_CheckRule_1_L3]
    exact .bind fun _ => l7_mono hd (l3_mono hk r n _) _
end
theorem l8_mono {k k' : Option (Int ⊕ Unit)} (hk : Mo k k') : ∀ l : List Gl, Mo (lf_scope_CheckRule_1_L8 k l) (lf_scope_CheckRule_1_L8 k' l)
  | [] => by rw [lf_scope_CheckRule_1_L8, lf_scope_CheckRule_1_L8]; exact hk
  | g :: l => by
    rw [lf_scope_CheckRule_1_L8, lf_scope_CheckRule_1_L8]
    exact .bind fun _ => .bindX (.refl _) (l8_mono hk l)
theorem l9_mono {k k' : Option (Int ⊕ Unit)} (hk : Mo k k') : ∀ l : List At, Mo (lf_scope_CheckRule_1_L9 k l) (lf_scope_CheckRule_1_L9 k' l)
  | [] => by rw [lf_scope_CheckRule_1_L9, lf_scope_CheckRule_1_L9]; exact hk
  | g :: l => by
    rw [lf_scope_CheckRule_1_L9, lf_scope_CheckRule_1_L9]
    exact .bind fun _ => .bindX (.refl _) (l9_mono hk l)
theorem l0_mono {k k' : Option (Int ⊕ Unit)} (hk : Mo k k') (r : S_api_Rule) : ∀ (n : Nat) (i : Int), Mo (lf_scope_CheckRule_1_L0 k r n i) (lf_scope_CheckRule_1_L0 k' r n i)
  | 0, i => by rw [lf_scope_CheckRule_1_L0, lf_scope_CheckRule_1_L0]; exact hk
  | n + 1, i => by
    rw [lf_scope_CheckRule_1_L0, lf_scope_CheckRule_1_L0]
    exact .bind fun _ => l9_mono (l0_mono hk r n _) _
theorem l1_mono {k k' : Option (Int ⊕ Unit)} (hk : Mo k k') (r : S_api_Rule) : ∀ (n : Nat) (i : Int), Mo (lf_scope_CheckRule_1_L1 k r n i) (lf_scope_CheckRule_1_L1 k' r n i)
  | 0, i => by rw [lf_scope_CheckRule_1_L1, lf_scope_CheckRule_1_L1]; exact hk
  | n + 1, i => by
    rw [lf_scope_CheckRule_1_L1, lf_scope_CheckRule_1_L1]
    exact .bind fun _ => l8_mono (l1_mono hk r n _) _
theorem l2_mono {k k' : Int → Option (Int ⊕ Unit)} (hk : ∀ n, Mo (k n) (k' n)) : ∀ (l : List Int) (n : Int), Mo (lf_scope_CheckRule_1_L2 k l n) (lf_scope_CheckRule_1_L2 k' l n)
  | [], n => by rw [lf_scope_CheckRule_1_L2, lf_scope_CheckRule_1_L2]; exact hk n
  | v :: l, n => by
    rw [lf_scope_CheckRule_1_L2, lf_scope_CheckRule_1_L2]
    exact .bindX (.refl _) (.cond (l2_mono hk l _) (l2_mono hk l _))
theorem j0_mono {k k' : Option (Int ⊕ Unit)} (hk : Mo k k') (r : S_api_Rule) : Mo (lf_scope_CheckRule_1_J0 k r) (lf_scope_CheckRule_1_J0 k' r) := by
  rw [lf_scope_CheckRule_1_J0, lf_scope_CheckRule_1_J0]
  exact .cond (.cond (.cond (.bindX (.refl _) hk) (.bindX (.refl _) hk)) (.bindX (.refl _) hk)) (.bindX (.refl _) hk)
theorem j1_mono {k k' : Option (Int ⊕ Unit)} (hk : Mo k k') (r : S_api_Rule) : Mo (lf_scope_CheckRule_1_J1 k r) (lf_scope_CheckRule_1_J1 k' r) := by
  rw [lf_scope_CheckRule_1_J1, lf_scope_CheckRule_1_J1]
  exact .cond (.bindX (.refl _) hk) (.bind fun _ => .bindX (.refl _) hk)
theorem rule_mono {ds ds' : List S_api_Decl} (hd : ∀ d ∈ ds, d ∈ ds') (r : S_api_Rule) : Mo (lf_scope_CheckRule_1 r ds) (lf_scope_CheckRule_1 r ds') := by
  rw [lf_scope_CheckRule_1, lf_scope_CheckRule_1]
  refine j0_mono (l0_mono (l1_mono (.bind fun _ => .bind fun _ => .bind fun _ => l2_mono (fun n => .bindX (.refl _) (j1_mono (l3_mono hd ?_ r _ _) r)) _ _) r _ _) r _ _) r
  exact .bindX (calls_mono hd (.refl _) _) (.bindX (calls_mono hd (.refl _) _) (.refl _))

/-! ### the declarations -/
noncomputable def okD (d : S_api_Decl) : Int := if isName d.f0_Name = false then 7 else if d.f1_Arity < 0 then 9 else if 6 < d.f1_Arity then 9 else 0
noncomputable def dErr : List S_api_Decl → List S_api_Decl → Int
  | _, [] => 0
  | pre, q :: l => if okD q ≠ 0 then okD q else if q ∈ pre then 8 else dErr (pre ++ [q]) l
theorem dErr_zero : ∀ (l pre : List S_api_Decl), dErr pre l = 0 ↔ (∀ d ∈ l, okD d = 0 ∧ d ∉ pre) ∧ l.Nodup
  | [], pre => by simp [dErr]
  | q :: l, pre => by
    rw [dErr]
    by_cases h0 : okD q = 0
    · rw [if_neg (by simpa using h0)]
      by_cases h1 : q ∈ pre
      · rw [if_pos h1]
        constructor
        · intro h; cases h
        · intro h; exact absurd h1 (h.1 q (List.mem_cons_self ..)).2
      · rw [if_neg h1, dErr_zero l (pre ++ [q])]
        simp only [List.mem_cons, List.mem_append, List.nodup_cons, forall_eq_or_imp, not_or]
        constructor
        · rintro ⟨a, b⟩
          exact ⟨⟨⟨h0, h1⟩, fun d hd => ⟨(a d hd).1, (a d hd).2.1⟩⟩, fun hm => (a q hm).2.2.1 rfl, b⟩
        · rintro ⟨⟨_, a⟩, b, c⟩
          exact ⟨fun d hd => ⟨(a d hd).1, (a d hd).2, fun e => b (e ▸ hd), List.not_mem_nil⟩, c⟩
    · rw [if_pos h0]
      constructor
      · intro h; exact absurd h h0
      · intro h; exact absurd (h.1 q (List.mem_cons_self ..)).1 h0
theorem dErr_app : ∀ (l pre m : List S_api_Decl), dErr pre l = 0 → dErr pre (l ++ m) = dErr (pre ++ l) m
  | [], pre, m, _ => by simp
  | q :: l, pre, m, h => by
    rw [dErr] at h
    rw [List.cons_append, dErr]
    by_cases h0 : okD q = 0
    · rw [if_neg (by simpa using h0)] at h ⊢
      by_cases h1 : q ∈ pre
      · rw [if_pos h1] at h; cases h
      · rw [if_neg h1] at h ⊢
        rw [dErr_app l (pre ++ [q]) m h, List.append_assoc]
        rfl
    · rw [if_pos h0] at h
      exact absurd h h0
theorem decs_L0 (k : Option (Int ⊕ Unit)) : ∀ (l pre : List S_api_Decl) (mm : List (S_api_Decl × Bool)), (∀ d, (mget mm d).getD false = decide (d ∈ pre)) → mm.length + l.length ≤ 1000000 → lf_scope_Check_1_L0 k l mm = if dErr pre l ≠ 0 then some (.inl (dErr pre l)) else k
  | [], pre, mm, _, _ => by rw [lf_scope_Check_1_L0, dErr]; rfl
  | q :: l, pre, mm, hm, hl => by
    simp only [List.length_cons] at hl
    have hlen := mput_len mm q true
    have ih := decs_L0 k l (pre ++ [q]) (mput mm q true) (fun d => by
      rw [mget_mput]
      by_cases hx : q = d
      · subst hx; simp
      · rw [if_neg hx, hm d]
        simp [show ¬ d = q from fun e => hx e.symm]) (by omega)
    rw [lf_scope_Check_1_L0, x_isName_eq _ trivial, Option.bind_some, mputO_eq _ _ _ (by omega), Option.bind_some, ih, hm q, dErr, okD]
    cases isName q.f0_Name with
    | false => rfl
    | true =>
      by_cases h1 : q.f1_Arity < 0
      · rw [decide_eq_false (by omega)]
        simp only [h1, if_true]
        rfl
      · rw [decide_eq_true (by omega), cond_true]
        by_cases h2 : 6 < q.f1_Arity
        · rw [decide_eq_false (by omega)]
          simp only [h1, h2, if_true, if_false]
          rfl
        · rw [decide_eq_true (by omega)]
          by_cases h3 : q ∈ pre
          · simp only [h1, h2, h3, if_true, if_false, decide_true]
            rfl
          · simp only [h1, h2, h3, if_false, decide_false]
            rfl
theorem check1_val (p : S_api_Program) : lf_scope_Check_1 p = if 30 < p.f0_Decls.length then some (.inl 6) else if dErr [] p.f0_Decls ≠ 0 then some (.inl (dErr [] p.f0_Decls)) else if 40 < p.f1_Rules.length then some (.inl 6) else some (.inr ()) := by
  rw [lf_scope_Check_1]
  by_cases h : 30 < p.f0_Decls.length
  · rw [decide_eq_false (by omega), if_pos h]; rfl
  · rw [decide_eq_true (by omega), if_neg h]
    rw [show ∀ f : Unit → Option (Int ⊕ Unit), bindX (lf_scope_need true 6) f = f () from fun _ => rfl, decs_L0 _ p.f0_Decls [] [] (fun d => by simp [mget]) (by simp; omega)]
    by_cases h2 : 40 < p.f1_Rules.length
    · rw [decide_eq_false (by omega), if_pos h2]; rfl
    · rw [decide_eq_true (by omega), if_neg h2]; rfl

/-! ### the rules -/
theorem rules_ok (p : S_api_Program) : ∀ (l : List S_api_Rule) (i : Nat), (∀ r ∈ l, lf_scope_CheckRule_1 r p.f0_Decls = some (.inr ())) → lf_scope_Check_L0 (some (0, 0)) p l i = some (0, 0)
  | [], i, _ => by rw [lf_scope_Check_L0]
  | r :: l, i, h => by
    rw [lf_scope_Check_L0, lf_scope_CheckRule, h r (List.mem_cons_self ..)]
    exact rules_ok p l (i + 1) fun x hx => h x (List.mem_cons_of_mem _ hx)
theorem rules_back (p : S_api_Program) (hn : ∀ r ∈ p.f1_Rules, Bd r ∧ r.f0_Name.size ≤ 9223372036854775807) : ∀ (l : List S_api_Rule) (i : Nat) (a : Int), (∀ r ∈ l, r ∈ p.f1_Rules) → lf_scope_Check_L0 (some (0, 0)) p l i = some (a, 0) → ∀ r ∈ l, lf_scope_CheckRule_1 r p.f0_Decls = some (.inr ())
  | [], i, a, _, _, r, hr => by cases hr
  | q :: l, i, a, hl, h, r, hr => by
    have hq := hn q (hl q (List.mem_cons_self ..))
    obtain ⟨s, g1, _, g3⟩ := rule_same 1048577 (Nat.le_refl _) p.f0_Decls q hq.1 hq.2
    rw [lf_scope_Check_L0, lf_scope_CheckRule, g1] at h
    cases s with
    | inl c =>
      have hc := g3 c rfl
      simp only [Option.bind_some, caughtV] at h
      rw [show (c != 0) = true by simpa using hc, cond_true] at h
      injection h with h
      injection h with _ h
      exact absurd h hc
    | inr u =>
      rcases List.mem_cons.1 hr with rfl | hr
      · exact g1
      · exact rules_back p hn l (i + 1) a (fun x hx => hl x (List.mem_cons_of_mem _ hx)) h r hr
theorem check_ok {p : S_api_Program} (h1 : p.f0_Decls.length ≤ 30) (h2 : dErr [] p.f0_Decls = 0) (h3 : p.f1_Rules.length ≤ 40) (h4 : ∀ r ∈ p.f1_Rules, lf_scope_CheckRule_1 r p.f0_Decls = some (.inr ())) : lf_scope_Check p = some (0, 0) := by
  rw [lf_scope_Check, check1_val, if_neg (by omega), if_neg (by simpa using h2), if_neg (by omega)]
  exact rules_ok p p.f1_Rules 0 h4
theorem turned_L0 (k : List S_api_Decl → List S_api_Rule → Option Bool) (p : S_api_Program) (rs : List S_api_Rule) : ∀ (n : Nat) (acc : List S_api_Decl), n ≤ p.f0_Decls.length → acc.length + n ≤ 1000 → lf_constraintlaw15_ScopeLess_L0 k p n acc rs = k (acc ++ (p.f0_Decls.take n).reverse) rs
  | 0, acc, _, _ => by rw [lf_constraintlaw15_ScopeLess_L0]; simp
  | n + 1, acc, h, hl => by
    have hlt : n < p.f0_Decls.length := by omega
    rw [lf_constraintlaw15_ScopeLess_L0, getI_nat, List.getElem?_eq_getElem hlt, Option.bind_some, show appO 24 acc [p.f0_Decls[n]] = some (acc ++ [p.f0_Decls[n]]) from if_pos ⟨by simp; omega, by simp; omega⟩, Option.bind_some, turned_L0 k p rs n _ (by omega) (by simp; omega), List.take_add_one, List.getElem?_eq_getElem hlt, List.append_assoc, show (List.take n p.f0_Decls ++ (some p.f0_Decls[n]).toList).reverse = [p.f0_Decls[n]] ++ (List.take n p.f0_Decls).reverse by rw [List.reverse_append]; rfl]
theorem remS (w : Int) (n : Nat) (h0 : 0 < n) (hn : n ≤ 1000) : ∃ k : Nat, k < n ∧ remU (IntKind.u64.wrap w) (IntKind.u64.wrap (n : Int)) = some (k : Int) := by
  have e1 : IntKind.u64.wrap (n : Int) = (n : Int) := by
    simp [IntKind.wrap, IntKind.bits, IntKind.signed]
    omega
  have e2 : 0 ≤ IntKind.u64.wrap w := by
    simp [IntKind.wrap, IntKind.bits, IntKind.signed]
    omega
  rw [e1, remU, if_neg (by omega), Int.tmod_eq_emod_of_nonneg e2]
  have h1 := Int.emod_nonneg (IntKind.u64.wrap w) (show (n : Int) ≠ 0 by omega)
  have h2 := Int.emod_lt_of_pos (IntKind.u64.wrap w) (show (0 : Int) < n by omega)
  exact ⟨(IntKind.u64.wrap w % (n : Int)).toNat, by omega, by congr 1; omega⟩
theorem appSc {α : Type} (n : Nat) (l m : List α) (h : l.length + m.length ≤ 10000) (hn : n ≤ 1000) : appO n l m = some (l ++ m) := by
  have : (l.length + m.length) * n ≤ 10000 * 1000 := Nat.mul_le_mul h hn
  exact if_pos ⟨by omega, by omega⟩
/-- The rules that are left. -/
theorem less_J0 (k : S_api_Program → Option Bool) (p : S_api_Program) (w : Int) (hl : p.f1_Rules.length ≤ 40) : ∃ rs : List S_api_Rule, (∀ r ∈ rs, r ∈ p.f1_Rules) ∧ rs.length ≤ p.f1_Rules.length ∧ lf_constraintlaw15_ScopeLess_J0 k p.f1_Rules p w = k ⟨p.f0_Decls, rs⟩ := by
  rw [lf_constraintlaw15_ScopeLess_J0]
  by_cases h : 0 < p.f1_Rules.length
  · obtain ⟨i, h1, h2⟩ := remS w p.f1_Rules.length h (by omega)
    refine ⟨p.f1_Rules.take i ++ p.f1_Rules.drop (i + 1), fun r hr => (List.mem_append.1 hr).elim (fun h => List.mem_of_mem_take h) fun h => List.mem_of_mem_drop h, by simp; omega, ?_⟩
    have s1 : subO p.f1_Rules 0 (i : Int) = some (p.f1_Rules.take i) := by
      unfold subO
      rw [if_pos (by omega)]
      simp
    have s2 : subO p.f1_Rules ((i + 1 : Nat) : Int) (p.f1_Rules.length : Int) = some (p.f1_Rules.drop (i + 1)) := by
      unfold subO
      rw [if_pos (by omega)]
      simp
    rw [decide_eq_true (by omega), cond_true, h2, Option.bind_some, show IntKind.i64.wrap (i : Int) = (i : Int) from wr_eq (by omega), wr_eq (n := (i : Int) + 1) (by omega), show (i : Int) + 1 = ((i + 1 : Nat) : Int) by omega, s1, Option.bind_some, s2, Option.bind_some, appSc 120 [] _ (by simp; omega) (by omega), Option.bind_some, List.nil_append, appSc 120 _ _ (by simp; omega) (by omega), Option.bind_some]
  · exact ⟨p.f1_Rules, fun r hr => hr, Nat.le_refl _, by rw [decide_eq_false (by omega), cond_false]⟩
theorem lessS_lf (p : S_api_Program) (w : Int) (more : S_api_Decl) (hn : ∀ r ∈ p.f1_Rules, Nm r ∧ r.f0_Name.size ≤ 9223372036854775807) : lf_constraintlaw15_ScopeLess p w more = some true := by
  rw [lf_constraintlaw15_ScopeLess, live15, Option.bind_some, Bool.not_true, cond_false]
  obtain ⟨b, e1, e2⟩ := great_lf p 300 (by omega) (fun x hx => (hn x hx).1)
  rw [e1, Option.bind_some]
  cases b with
  | true => rfl
  | false =>
    have hB := e2 rfl
    have hR : ∀ r ∈ p.f1_Rules, Bd r ∧ r.f0_Name.size ≤ 9223372036854775807 := fun r hr => ⟨hB r hr, (hn r hr).2⟩
    rw [cond_false]
    by_cases hm : (more.f0_Name.size : Int) > 100
    · rw [decide_eq_true hm, cond_true]
    rw [decide_eq_false hm, cond_false]
    -- what Check says of p
    have hC : (∃ a e, e ≠ 0 ∧ lf_scope_Check p = some (a, e)) ∨ (p.f0_Decls.length ≤ 30 ∧ dErr [] p.f0_Decls = 0 ∧ p.f1_Rules.length ≤ 40 ∧ ∀ r ∈ p.f1_Rules, lf_scope_CheckRule_1 r p.f0_Decls = some (.inr ())) := by
      rw [lf_scope_Check, check1_val]
      by_cases h1 : 30 < p.f0_Decls.length
      · rw [if_pos h1]; exact .inl ⟨_, _, by decide, rfl⟩
      rw [if_neg h1]
      by_cases h2 : dErr [] p.f0_Decls = 0
      · rw [if_neg (by simpa using h2)]
        by_cases h3 : 40 < p.f1_Rules.length
        · rw [if_pos h3]; exact .inl ⟨_, _, by decide, rfl⟩
        rw [if_neg h3]
        simp only [Option.bind_some, caughtV]
        rw [show ((0 : Int) != 0) = false from rfl, cond_false]
        obtain ⟨⟨a, e⟩, hv, _⟩ := cl_tot p p.f1_Rules 0 hB
        by_cases he : e = 0
        · subst he
          exact .inr ⟨by omega, h2, by omega, rules_back p hR p.f1_Rules 0 a (fun _ h => h) hv⟩
        · exact .inl ⟨a, e, he, hv⟩
      · rw [if_pos h2]
        refine .inl ⟨-1, dErr [] p.f0_Decls, h2, ?_⟩
        simp only [Option.bind_some, caughtV]
        rw [show (dErr [] p.f0_Decls != 0) = true by simpa using h2, cond_true]
    rcases hC with ⟨a, e, he, hc⟩ | ⟨h1, h2, h3, h4⟩
    · rw [hc, Option.bind_some]
      simp only []
      rw [show (e != 0) = true by simpa using he, cond_true]
    · have h5 := (dErr_zero p.f0_Decls []).1 h2
      rw [check_ok h1 h2 h3 h4, Option.bind_some]
      simp only []
      rw [show ((0 : Int) != 0) = false from rfl, cond_false, appSc 120 [] p.f1_Rules (by simp; omega) (by omega), Option.bind_some, List.nil_append]
      obtain ⟨rs, g1, g2, g3⟩ := less_J0 (fun less_10 =>
        ((downO (wr ((p.f0_Decls.length : Int) - (1 : Int)))).bind fun m_36 =>
        (lf_constraintlaw15_ScopeLess_L0 (fun turned_17 turned_18 =>
        ((appO 24 [] p.f0_Decls).bind fun l_20 =>
        ((appO 24 l_20 [more]).bind fun l_21 =>
        ((lf_scope_Check less_10).bind fun r_22 =>
        ((lf_scope_Check (⟨turned_17, turned_18⟩ : S_api_Program)).bind fun r_23 =>
        ((lf_scope_Check (⟨l_21, p.f1_Rules⟩ : S_api_Program)).bind fun r_24 =>
        (bif (r_22.2 != (0 : Int)) then
        some (false)
        else
        (bif (r_23.2 != (0 : Int)) then
        some (false)
        else
        (bif (r_24.2 == (0 : Int)) then
        ((lf_scope_Declared p.f0_Decls more.f0_Name more.f1_Arity).bind fun r_28 =>
        some ((!r_28)))
        else
        (bif (r_24.1 == ((-1) : Int)) then
        (bif ((r_24.2 == (6 : Int)) == (decide ((p.f0_Decls.length : Int) ≥ (30 : Int)))) then
        (bif (r_24.2 != (10 : Int)) then
        some ((r_24.2 != (17 : Int)))
        else
        some (false))
        else
        some (false))
        else
        some (false))))))))))) p m_36 [] p.f1_Rules))) p w h3
      refine g3.trans ?_
      have hdown : downO (wr ((p.f0_Decls.length : Int) - 1)) = some p.f0_Decls.length := by
        rw [wr_eq (by omega), downO, if_pos (by omega)]
        congr 1
        omega
      have hless : lf_scope_Check ⟨p.f0_Decls, rs⟩ = some (0, 0) := check_ok h1 h2 (by simp only []; omega) fun r hr => h4 r (g1 r hr)
      have hturn : lf_scope_Check ⟨p.f0_Decls.reverse, p.f1_Rules⟩ = some (0, 0) := check_ok (by simp only [List.length_reverse]; exact h1) ((dErr_zero _ _).2 ⟨fun d hd => h5.1 d (List.mem_reverse.1 hd), List.pairwise_reverse.2 (List.Pairwise.imp (fun h => Ne.symm h) h5.2)⟩) h3 fun r hr => rule_mono (fun d hd => List.mem_reverse.2 hd) r (h4 r hr)
      rw [hdown, Option.bind_some, turned_L0 _ p p.f1_Rules p.f0_Decls.length [] (Nat.le_refl _) (by simp; omega), List.nil_append, List.take_length, appSc 24 [] p.f0_Decls (by simp; omega) (by omega), Option.bind_some, List.nil_append, appSc 24 _ _ (by simp; omega) (by omega), Option.bind_some, hless, Option.bind_some, hturn, Option.bind_some, Declared_eq, Option.bind_some]
      -- the wider one
      have hw : lf_scope_Check ⟨p.f0_Decls ++ [more], p.f1_Rules⟩ = some (if 30 ≤ p.f0_Decls.length then (-1, 6) else if okD more ≠ 0 then (-1, okD more) else if more ∈ p.f0_Decls then (-1, 8) else (0, 0)) := by
        by_cases h30 : 30 ≤ p.f0_Decls.length
        · rw [lf_scope_Check, check1_val, if_pos (by simp; omega), if_pos h30]
          rfl
        · have hd : dErr [] (p.f0_Decls ++ [more]) = if okD more ≠ 0 then okD more else if more ∈ p.f0_Decls then 8 else 0 := by
            rw [dErr_app _ _ _ h2, List.nil_append, dErr, dErr]
          rw [if_neg h30]
          by_cases ho : okD more = 0
          · rw [if_neg (by simpa using ho)] at hd ⊢
            by_cases hi : more ∈ p.f0_Decls
            · rw [if_pos hi] at hd ⊢
              rw [lf_scope_Check, check1_val]
              simp only [hd]
              rw [if_neg (by simp; omega), if_pos (by decide)]
              rfl
            · rw [if_neg hi] at hd ⊢
              exact check_ok (by simp; omega) hd h3 fun r hr => rule_mono (fun d hd => List.mem_append_left _ hd) r (h4 r hr)
          · rw [if_pos ho] at hd ⊢
            rw [lf_scope_Check, check1_val]
            simp only [hd]
            rw [if_neg (by simp; omega), if_pos ho]
            simp only [Option.bind_some, caughtV]
            rw [show (okD more != 0) = true by simpa using ho, cond_true]
      rw [hw, Option.bind_some]
      by_cases h30 : 30 ≤ p.f0_Decls.length
      · rw [if_pos h30, decide_eq_true (p := (p.f0_Decls.length : Int) ≥ 30) (by omega)]; rfl
      · rw [if_neg h30, decide_eq_false (p := (p.f0_Decls.length : Int) ≥ 30) (by omega)]
        by_cases ho : okD more = 0
        · rw [if_neg (by simpa using ho)]
          by_cases hi : more ∈ p.f0_Decls
          · rw [if_pos hi]; rfl
          · rw [if_neg hi, decide_eq_false (p := (⟨more.f0_Name, more.f1_Arity⟩ : S_api_Decl) ∈ p.f0_Decls) hi]; rfl
        · rw [if_pos ho]
          have h79 : okD more = 7 ∨ okD more = 9 := by
            unfold okD at ho ⊢
            split
            · exact .inl rfl
            · rename_i a
              rw [if_neg a] at ho
              split
              · exact .inr rfl
              · rename_i b
                rw [if_neg b] at ho
                split
                · exact .inr rfl
                · rename_i c
                  rw [if_neg c] at ho
                  exact absurd rfl ho
          rcases h79 with h | h <;> rw [h] <;> rfl
theorem gives_ScopeLess (q : S_api_Program) (n : Int) (d : S_api_Decl) : Gives Try.prog 7 [enc_S_api_Program q, .int .i64 n, enc_S_api_Decl d] (.bool true) := fun w p vs hi hv => by
  have hv' := hv
  simp only [Repl] at hv'
  obtain ⟨v, _, _, h, _⟩ := hv'
  refine lg_constraintlaw15_ScopeLess q n d true (lessS_lf q n d (fun r hr => ⟨nmP_of h r hr, ?_⟩)) w p vs hi hv
  obtain ⟨_, h1⟩ := agg_mem h (.lst (q.f1_Rules.map enc_S_api_Rule)) (by simp)
  obtain ⟨_, h2⟩ := lst_mem h1 r hr
  obtain ⟨_, h3⟩ := agg_mem h2 (.str r.f0_Name) (by simp)
  exact str_le h3
end Go.Proofs.Ytgndcnknmkcacaa


namespace Go.Proofs.Ytgndcnknmkcacaa
set_option maxRecDepth 100000
open Go.ChangeShapes Go.WideShapes Go.ChangeAt Go.RowKit

/-- Every cell that there is. -/
def live (w : World) (a : Addr) : Prop := ∃ v, w.cell? a = some v
theorem live_grow {w w' : World} (e : Ext w w') : Grow (live w) w (live w') w' := fun _ ⟨v, hv⟩ => ⟨⟨v, e.cellOf hv⟩, by rw [hv]; exact e.cellOf hv⟩
/-- A datum of a type, opened. -/
def Op (t : TypeId) (n : Nat) (S : D → Prop) : Prop := ∀ (H : Type) (enc : TypeId × Value → H) (W : World) (base : Nat) (sp : Nat → Bool) (hd : Bool) (fuel : Nat) (cs : List Value) (x : DataW H × List MemPlace),
  DataW.trod enc Try.prog W base sp hd fuel t cs = some x → ∃ d v, S d ∧ d.plain = true ∧ sz d = n ∧ Rep (live W) W d v ∧ cs = v.cells.toList
theorem Op.to {t : TypeId} {n : Nat} {S S' : D → Prop} (h : Op t n S) (k : ∀ d, S d → S' d) : Op t n S' := fun H enc W base sp hd fuel cs x hx => by
  obtain ⟨d, v, h1, h2⟩ := h H enc W base sp hd fuel cs x hx
  exact ⟨d, v, k d h1, h2⟩
theorem op_i64 {t : TypeId} (ht : (Try.prog).underlying t = some (.int .i64)) : Op t 1 fun d => ∃ n, d = .int .i64 n := fun H enc W base sp hd fuel cs x hx => by
  obtain ⟨k, rfl, _, w0⟩ := DataW.trod_int ht hx
  have := i64_of w0
  refine ⟨.int .i64 k, .int .i64 k, ⟨k, rfl⟩, rfl, rfl, ?_, by simp [Value.cells]⟩
  simp only [Rep]
  exact ⟨trivial, wrap64 (by unfold I64 at this; omega)⟩
theorem op_str {t : TypeId} (ht : (Try.prog).underlying t = some .string) : Op t 1 fun d => ∃ s, d = .str s := fun H enc W base sp hd fuel cs x hx => by
  obtain ⟨s, rfl, _, w0⟩ := DataW.trod_string ht hx
  refine ⟨.str s, .string s, ⟨s, rfl⟩, rfl, rfl, ?_, by simp [Value.cells]⟩
  simp only [Rep]
  exact ⟨trivial, by unfold maxLen at w0; omega⟩
/-- One predicate a field. -/
def Fits : List (D → Prop) → List D → Prop
  | [], [] => True
  | S :: ss, d :: ds => S d ∧ Fits ss ds
  | _, _ => False
/-- Fields, one behind the other, from an offset to the end. -/
def tight (P : Program) : Nat → List Field → Bool
  | _, [] => true
  | o, f :: fs => f.offset == o && tight P (o + P.cellsOf f.type) fs
theorem reps_ones {p : Addr → Prop} {w : World} : ∀ {ds : List D} {cs : List Value}, Reps p w ds cs → (∀ d ∈ ds, d.plain = true) → ∀ u ∈ cs, u.oneCell' = true
  | [], cs, h, _, u, hu => by simp only [Reps] at h; subst h; simp at hu
  | d :: ds, cs, h, hp, u, hu => by
    simp only [Reps] at h
    obtain ⟨v, rest, rfl, h1, h2⟩ := h
    rcases List.mem_append.1 hu with hu | hu
    · exact h1.one (hp d (List.mem_cons_self ..)) u hu
    · exact reps_ones h2 (fun e he => hp e (List.mem_cons_of_mem _ he)) u hu
def total (P : Program) : List Field → Nat
  | [] => 0
  | f :: fs => P.cellsOf f.type + total P fs
def Ops : List Field → List (D → Prop) → Prop
  | [], [] => True
  | f :: fs, S :: ss => Op f.type ((Try.prog).cellsOf f.type) S ∧ Ops fs ss
  | _, _ => False
theorem fields_open {H : Type} {enc : TypeId × Value → H} {W : World} {base : Nat} {sp : Nat → Bool} {hd : Bool} {n : Nat} {cs : List Value} :
    ∀ (fs : List Field) (ss : List (D → Prop)) (o : Nat), Ops fs ss → tight Try.prog o fs = true → o + total Try.prog fs = cs.length →
      (∀ (i : Nat) (f : Field), fs[i]? = some f → ∃ x, DataW.trod enc Try.prog W base sp hd n f.type ((cs.drop f.offset).take ((Try.prog).cellsOf f.type)) = some x) →
      ∃ ds, Fits ss ds ∧ (∀ d ∈ ds, d.plain = true) ∧ szs ds = total Try.prog fs ∧ Reps (live W) W ds (cs.drop o)
  | [], [], o, _, _, hl, _ => ⟨[], trivial, by simp, rfl, by simp only [total] at hl; rw [List.drop_eq_nil_of_le (by omega)]; exact Reps.nil _ _⟩
  | f :: fs, S :: ss, o, hop, ht, hl, hx => by
    simp only [tight, Bool.and_eq_true, beq_iff_eq] at ht
    simp only [total] at hl
    obtain ⟨ds, h1, h2, h3, h4⟩ := fields_open fs ss (o + (Try.prog).cellsOf f.type) hop.2 ht.2 (by omega) fun i g hg => hx (i + 1) g hg
    obtain ⟨x, h5⟩ := hx 0 f rfl
    rw [ht.1] at h5
    obtain ⟨d, v, g1, g2, g3, g4, g5⟩ := hop.1 H enc W base sp hd n _ x h5
    refine ⟨d :: ds, ⟨g1, h1⟩, ?_, by simp only [szs, total, g3, h3], ?_⟩
    · intro e he
      rcases List.mem_cons.1 he with rfl | he
      · exact g2
      · exact h2 e he
    · have := Reps.cons g4 h4
      rw [← g5, ← List.drop_drop, List.take_append_drop] at this
      exact this
  | [], _ :: _, _, h, _, _, _ => h.elim
  | _ :: _, [], _, h, _, _, _ => h.elim
theorem op_struct {t : TypeId} {fs : Array Field} {n : Nat} (ht : (Try.prog).underlying t = some (.struct fs)) (ss : List (D → Prop)) (hs : Ops fs.toList ss) (h1 : tight Try.prog 0 fs.toList = true) (h2 : total Try.prog fs.toList = n) (h3 : (Try.prog).cellsOf t = n) :
    Op t n fun d => ∃ ds, d = .agg ds ∧ Fits ss ds := fun H enc W base sp hd fuel cs x hx => by
  obtain ⟨xs, m, _, _, hl, hlen, hf⟩ := DataW.trod_struct ht hx
  obtain ⟨ds, g1, g2, g3, g4⟩ := fields_open (enc := enc) (W := W) (base := base) (sp := sp) (hd := hd) (n := m) (cs := cs) fs.toList ss 0 hs h1 (by omega) fun i f hi => by
    have hi' : fs[i]? = some f := by simpa using hi
    have hlt : i < xs.length := by
      have := (Array.getElem?_eq_some_iff.1 hi').1
      omega
    exact ⟨xs[i], by rw [hf i f hi', List.getElem?_eq_getElem hlt]⟩
  refine ⟨.agg ds, .agg cs.toArray, ⟨ds, rfl, g1⟩, rfl, by simp only [sz]; omega, ?_, by simp [Value.cells]⟩
  simp only [Rep]
  rw [List.drop_zero] at g4
  exact ⟨cs, rfl, g4, reps_ones g4 g2⟩
/-- Data of one size as a layout. -/
def layD (n : Nat) (hn : 0 < n) (S : D → Prop) : Lay D where
  C := fun w d cs => S d ∧ d.plain = true ∧ sz d = n ∧ ∃ v, Rep (live w) w d v ∧ cs = v.cells.toList
  n := n
  pos := hn
  ext := fun ⟨h1, h2, h3, v, h4, h5⟩ e => ⟨h1, h2, h3, v, h4.grow (live_grow e), h5⟩
  len := fun ⟨_, _, h3, v, h4, h5⟩ => by rw [h5, ← h3, ← h4.sz]; simp
  one := fun ⟨_, h2, _, v, h4, h5⟩ u hu => by subst h5; exact h4.one h2 u hu
theorem layD_ls {n : Nat} {hn : 0 < n} {S : D → Prop} {w : World} : ∀ {l : List D} {xs : List Value}, (layD n hn S).Ls w l xs → (∀ d ∈ l, S d ∧ d.plain = true) ∧ Reps (live w) w l xs
  | [], xs, h => by
    have h : xs = [] := h
    subst h
    exact ⟨by simp, Reps.nil _ _⟩
  | d :: l, xs, ⟨cs, ys, h1, ⟨g1, g2, _, v, g4, g5⟩, h3⟩ => by
    obtain ⟨k1, k2⟩ := layD_ls h3
    subst h1 g5
    refine ⟨?_, Reps.cons g4 k2⟩
    intro e he
    rcases List.mem_cons.1 he with rfl | he
    · exact ⟨g1, g2⟩
    · exact k1 e he
theorem rd_live {w : World} {A : Option Addr} {xs : List Value} (h : Rd w A xs) : RdP (live w) w A xs := by
  rcases h with h | ⟨ad, rfl, hc⟩
  · exact .inl h
  · by_cases he : xs = []
    · exact .inl he
    · have hlen : 0 < xs.length := List.length_pos_iff.2 he
      have hsp : ad.spot = none := by
        have := cell_spot (hc 0 _ (List.getElem?_eq_getElem hlen))
        simpa [Addr.add] using this
      obtain ⟨b, o, sp⟩ := ad
      simp only at hsp
      subst hsp
      refine .inr ⟨b, o, rfl, fun j u hu => ?_⟩
      have h1 : w.cell? ⟨b, o + j, none⟩ = some u := by have := hc j u hu; rwa [add_flat] at this
      exact ⟨⟨u, h1⟩, h1⟩
theorem op_slice {t e : TypeId} {n : Nat} {S : D → Prop} (ht : (Try.prog).underlying t = some (.slice e)) (hn : (Try.prog).cellsOf e = n) (hp : 0 < n) (he : Op e n S) : Op t 1 fun d => ∃ l, d = .lst l ∧ ∀ x ∈ l, S x := fun H enc W base sp hd fuel cs x hx => by
  obtain ⟨l, v, rfl, h1⟩ := Lay.open_sl (L := layD n hp S) ht hn (fun m cs x _ h => by
    obtain ⟨d, v, g1, g2, g3, g4, g5⟩ := he H enc W base sp hd m cs x h
    exact ⟨d, g1, g2, g3, v, g4, g5⟩) hx
  obtain ⟨A, c, xs, rfl, h2, h3, h4, h5⟩ := h1
  obtain ⟨h6, h7⟩ := layD_ls h5
  refine ⟨.lst l, .slice A l.length c, ⟨l, rfl, fun d hd => (h6 d hd).1⟩, rfl, rfl, ?_, by simp [Value.cells]⟩
  simp only [Rep]
  exact ⟨A, c, xs, rfl, h2, h3, rd_live h4, h7, reps_ones h7 fun d hd => (h6 d hd).2⟩
/-- A list of data that all show something is the list of what they show. -/
theorem list_img {α : Type} {f : α → D} : ∀ {l : List D}, (∀ x ∈ l, ∃ a, x = f a) → ∃ av : List α, l = av.map f
  | [], _ => ⟨[], rfl⟩
  | d :: l, h => by
    obtain ⟨a, rfl⟩ := h d (List.mem_cons_self ..)
    obtain ⟨av, rfl⟩ := list_img fun x hx => h x (List.mem_cons_of_mem _ hx)
    exact ⟨a :: av, rfl⟩
theorem op_list {α : Type} {f : α → D} {t e : TypeId} {n : Nat} (ht : (Try.prog).underlying t = some (.slice e)) (hn : (Try.prog).cellsOf e = n) (hp : 0 < n) (he : Op e n fun d => ∃ a, d = f a) : Op t 1 fun d => ∃ av : List α, d = .lst (av.map f) :=
  (op_slice ht hn hp he).to fun d ⟨l, hl, h⟩ => by
    obtain ⟨av, rfl⟩ := list_img h
    exact ⟨av, hl⟩

/-! ### terms -/
mutual
theorem rep_ct {w : World} : ∀ {t : T} {cs : List Value}, CT w t cs → Reps (live w) w (fsT t) cs
  | .mk k i s ar, cs, h => by
    simp only [CT] at h
    obtain ⟨A, c, xs, rfl, ⟨h1, h2, h3, h4, h5⟩, h6, h7⟩ := h
    have g := rep_cl h7
    simp only [fsT, Reps, Rep]
    refine ⟨.int .i64 k, _, by simp [Value.cells]; rfl, ⟨rfl, wrap64 (by unfold I64 at h1; omega)⟩, .int .i64 i, _, by simp [Value.cells]; rfl, ⟨rfl, wrap64 (by unfold I64 at h2; omega)⟩, .string s, _, by simp [Value.cells]; rfl, ⟨rfl, h3⟩, .slice A ar.length c, _, by simp [Value.cells], ⟨A, c, xs, ?_, ?_, h5, rd_live h6, g, reps_ones g ?_⟩, rfl⟩
    · rw [encTs_eq]; simp
    · rw [encTs_eq]; simpa using h4
    · rw [encTs_eq]
      intro d hd
      obtain ⟨t, _, rfl⟩ := List.mem_map.1 hd
      rfl
theorem rep_cl {w : World} : ∀ {ts : List T} {xs : List Value}, CL w ts xs → Reps (live w) w (encTs ts) xs
  | [], xs, h => by
    simp only [CL] at h
    subst h
    simp only [encTs, Reps]
  | t :: ts, xs, h => by
    simp only [CL] at h
    obtain ⟨cs, ys, rfl, h1, h2⟩ := h
    have g := rep_ct h1
    simp only [encTs, Reps]
    refine ⟨.agg cs.toArray, ys, by simp [Value.cells], ?_, rep_cl h2⟩
    simp only [Rep]
    exact ⟨cs, rfl, g, reps_ones g fun d hd => by
      rw [fsT_eq] at hd
      simp only [List.mem_cons, List.not_mem_nil, or_false] at hd
      rcases hd with rfl | rfl | rfl | rfl <;> rfl⟩
end
theorem op_term : Op 88 4 fun d => ∃ t, d = encT t := fun H enc W base sp hd fuel cs x hx => by
  obtain ⟨t, ht⟩ := open_termF fuel cs x hx
  have g := rep_ct ht
  refine ⟨encT t, .agg cs.toArray, ⟨t, rfl⟩, rfl, sz_encT t, ?_, by simp [Value.cells]⟩
  simp only [Rep]
  exact ⟨cs, rfl, g, reps_ones g fun d hd => by
    rw [fsT_eq] at hd
    simp only [List.mem_cons, List.not_mem_nil, or_false] at hd
    rcases hd with rfl | rfl | rfl | rfl <;> rfl⟩
theorem op_terms : Op 42 1 fun d => ∃ l : List T, d = .lst (l.map encT) := op_list Try.underlying42 cells_term (by omega) op_term
theorem op_goal : Op 60 3 fun d => ∃ g, d = encG g :=
  (op_struct Try.underlying60 [fun d => ∃ n, d = .int .i64 n, fun d => ∃ s, d = .str s, fun d => ∃ l : List T, d = .lst (l.map encT)] ⟨op_i64 Try.underlying3, op_str Try.underlying9, op_terms, trivial⟩ (by kernel_rfl) (by kernel_rfl) cells_goal).to fun d ⟨ds, hd, h⟩ => by
    match ds, h with
    | [_, _, _], ⟨⟨n, rfl⟩, ⟨s, rfl⟩, ⟨l, rfl⟩, _⟩ => exact ⟨⟨n, s, l⟩, hd⟩
/-! ### a law's arguments -/
/-- The value has the shape of its data. -/
def Cl (t : TypeId) (S : D → Prop) : Prop := ∀ (W : World) (b : Nat) (v : Value), Value.okWide Try.prog W .any b t v → ∀ d, S d → v = reval d v.cells.toList
theorem Cl.to {t : TypeId} {S S' : D → Prop} (h : Cl t S') (k : ∀ d, S d → S' d) : Cl t S := fun W b v hv d hd => h W b v hv d (k d hd)
theorem cl_struct {t : TypeId} {fs : Array Field} (ht : (Try.prog).underlying t = some (.struct fs)) : Cl t fun d => ∃ ds, d = .agg ds := fun W b v hv d ⟨ds, hd⟩ => by
  obtain ⟨cs, rfl, _⟩ := okWide_struct ht hv
  subst hd
  simp [Value.cells, reval]
theorem cl_slice {t e : TypeId} (ht : (Try.prog).underlying t = some (.slice e)) : Cl t fun d => ∃ l, d = .lst l := fun W b v hv d ⟨l, hd⟩ => by
  obtain ⟨a, n, c, rfl⟩ := okWide_slice ht hv
  subst hd
  simp [Value.cells, reval]
theorem cl_i64 {t : TypeId} (ht : (Try.prog).underlying t = some (.int .i64)) : Cl t fun d => ∃ n, d = .int .i64 n := fun W b v hv d ⟨n, hd⟩ => by
  obtain ⟨m, rfl⟩ := okWide_int ht hv
  subst hd
  simp [Value.cells, reval]
structure Arg where
  t : TypeId
  n : Nat
  S : D → Prop
  op : Op t n S
  cl : Cl t S
def aInt : Arg := ⟨_, _, _, op_i64 Try.underlying3, cl_i64 Try.underlying3⟩
theorem args_open {H : Type} {enc : TypeId × Value → H} {W : World} {base b : Nat} {sp : Nat → Bool} {hd : Bool} : ∀ (av : List Arg) (vs : List Value) (ds : List (DataW H)) (ps : List MemPlace),
    DataW.TrodAll enc Try.prog W base sp hd (av.map Arg.t) vs ds ps → (∀ (j : Nat) t v, (av.map Arg.t)[j]? = some t → vs[j]? = some v → Value.okWide Try.prog W .any b t v) → ∃ es, Fits (av.map Arg.S) es ∧ Repl (live W) W es vs
  | [], vs, ds, ps, h, _ => by
    obtain ⟨rfl, _, _⟩ := trodAll_nil h
    exact ⟨[], trivial, Repl.nil _ _⟩
  | a :: av, vs, ds, ps, h, hv => by
    obtain ⟨v, vs', d, ds', p, q, rfl, rfl, rfl, ⟨fuel, h1⟩, h2⟩ := trodAll_cons h
    obtain ⟨es, g1, g2⟩ := args_open av vs' ds' q h2 fun j t u ht hu => hv (j + 1) t u ht hu
    obtain ⟨e, u, k1, k2, k3, k4, k5⟩ := a.op H enc W base sp hd fuel _ _ h1
    have e1 := a.cl W b v (hv 0 a.t v rfl rfl) e k1
    have e2 := k4.back
    rw [← k5] at e2
    rw [← e2] at e1
    subst e1
    exact ⟨e :: es, ⟨k1, g1⟩, Repl.cons k4 g2⟩
theorem holds_of {k : FuncId} {F : Func} (av : List Arg) (hp : F.params.toList = av.map Arg.t) (hg : ∀ es, Fits (av.map Arg.S) es → Gives Try.prog k es (.bool true)) : Holds k F := by
  intro H enc W base args ds p hval hA
  rw [hp] at hA
  obtain ⟨es, h1, h2⟩ := args_open (b := base) av args.toList ds p hA fun j t v ht hv => hval j t v (by rw [← Array.getElem?_toList, hp]; exact ht) (by simpa using hv)
  have hI : Inv (ctx W (live W) []) (live W) [] W := ⟨by simp, by simp [blks], by simp [blks], fun a ha => ha, Grow.refl _ _, fun a ha => .inl ha, rfl, rfl, rfl, Nat.le_refl _, fun b _ _ => rfl⟩
  refine (hg es h1 W (live W) args.toList hI h2).mono ?_
  rintro e w' (⟨v, d, σ, q, rfl, rfl, hr, hi⟩ | ⟨_, _, _, _, _, hx, _⟩)
  rotate_left
  · exact hx.elim
  simp only [Rep] at hr
  subst hr
  exact Ret.mk rfl ⟨hi.os, hi.tape, hi.output, hi.size, fun b hb => hi.block b hb (by simp [ctx, blks])⟩
end Go.Proofs.Ytgndcnknmkcacaa


namespace Go.Proofs.Ytgndcnknmkcacaa
set_option maxRecDepth 100000
open Go.ChangeShapes Go.WideShapes Go.ChangeAt Go.RowKit

theorem op_atom : Op 44 2 fun d => ∃ a, d = encA a :=
  (op_struct Try.underlying44 [fun d => ∃ s, d = .str s, fun d => ∃ l : List T, d = .lst (l.map encT)] ⟨op_str Try.underlying9, op_terms, trivial⟩ (by kernel_rfl) (by kernel_rfl) (by kernel_rfl)).to fun d ⟨ds, hd, h⟩ => by
    match ds, h with
    | [_, _], ⟨⟨s, rfl⟩, ⟨l, rfl⟩, _⟩ => exact ⟨⟨s, l⟩, hd⟩
theorem op_atoms : Op 32 1 fun d => ∃ l : List At, d = .lst (l.map encA) := op_list Try.underlying32 (by kernel_rfl) (by omega) op_atom
theorem op_goals : Op 33 1 fun d => ∃ l : List Gl, d = .lst (l.map encG) := op_list Try.underlying33 cells_goal (by omega) op_goal
theorem op_rule : Op 35 6 fun d => ∃ r, d = enc_S_api_Rule r :=
  (op_struct Try.underlying35 [fun d => ∃ s, d = .str s, fun d => ∃ l : List At, d = .lst (l.map encA), fun d => ∃ l : List At, d = .lst (l.map encA), fun d => ∃ l : List Gl, d = .lst (l.map encG), fun d => ∃ l : List Gl, d = .lst (l.map encG), fun d => ∃ n, d = .int .i64 n] ⟨op_str Try.underlying9, op_atoms, op_atoms, op_goals, op_goals, op_i64 Try.underlying3, trivial⟩ (by kernel_rfl) (by kernel_rfl) (by kernel_rfl)).to fun d ⟨ds, hd, h⟩ => by
    match ds, h with
    | [_, _, _, _, _, _], ⟨⟨s, rfl⟩, ⟨a, rfl⟩, ⟨b, rfl⟩, ⟨c, rfl⟩, ⟨e, rfl⟩, ⟨n, rfl⟩, _⟩ => exact ⟨⟨s, a, b, c, e, n⟩, hd⟩
theorem op_rules : Op 23 1 fun d => ∃ l : List S_api_Rule, d = .lst (l.map enc_S_api_Rule) := op_list Try.underlying23 (by kernel_rfl) (by omega) op_rule
theorem op_decl : Op 50 2 fun d => ∃ q, d = enc_S_api_Decl q :=
  (op_struct Try.underlying50 [fun d => ∃ s, d = .str s, fun d => ∃ n, d = .int .i64 n] ⟨op_str Try.underlying9, op_i64 Try.underlying3, trivial⟩ (by kernel_rfl) (by kernel_rfl) (by kernel_rfl)).to fun d ⟨ds, hd, h⟩ => by
    match ds, h with
    | [_, _], ⟨⟨s, rfl⟩, ⟨n, rfl⟩, _⟩ => exact ⟨⟨s, n⟩, hd⟩
theorem op_decls : Op 22 1 fun d => ∃ l : List S_api_Decl, d = .lst (l.map enc_S_api_Decl) := op_list Try.underlying22 (by kernel_rfl) (by omega) op_decl
theorem op_program : Op 25 2 fun d => ∃ q, d = enc_S_api_Program q :=
  (op_struct Try.underlying25 [fun d => ∃ l : List S_api_Decl, d = .lst (l.map enc_S_api_Decl), fun d => ∃ l : List S_api_Rule, d = .lst (l.map enc_S_api_Rule)] ⟨op_decls, op_rules, trivial⟩ (by kernel_rfl) (by kernel_rfl) (by kernel_rfl)).to fun d ⟨ds, hd, h⟩ => by
    match ds, h with
    | [_, _], ⟨⟨s, rfl⟩, ⟨n, rfl⟩, _⟩ => exact ⟨⟨s, n⟩, hd⟩
def aGoals : Arg := ⟨_, _, _, op_goals, (cl_slice Try.underlying33).to fun _ ⟨_, h⟩ => ⟨_, h⟩⟩
def aAtoms : Arg := ⟨_, _, _, op_atoms, (cl_slice Try.underlying32).to fun _ ⟨_, h⟩ => ⟨_, h⟩⟩
def aDecl : Arg := ⟨_, _, _, op_decl, (cl_struct Try.underlying50).to fun _ ⟨_, h⟩ => ⟨_, h⟩⟩
def aDecls : Arg := ⟨_, _, _, op_decls, (cl_slice Try.underlying22).to fun _ ⟨_, h⟩ => ⟨_, h⟩⟩
def aRule : Arg := ⟨_, _, _, op_rule, (cl_struct Try.underlying35).to fun _ ⟨_, h⟩ => ⟨_, h⟩⟩
def aProgram : Arg := ⟨_, _, _, op_program, (cl_struct Try.underlying25).to fun _ ⟨_, h⟩ => ⟨_, h⟩⟩
end Go.Proofs.Ytgndcnknmkcacaa

