/-
  Texts of the seat, merged.
-/
import Derived.Test.YtgndcnknmkcacaaLGA
import Derived.Test.YtgndcnknmkcacaaLGB
import Derived.Test.YtgndcnknmkcacaaLGC
import Derived.Test.YtgndcnknmkcacaaLGD
import Derived.Test.YtgndcnknmkcacaaLGE
import Derived.Test.YtgndcnknmkcacaaLGF
import Derived.Test.YtgndcnknmkcacaaChecked
import Derived.WalkKit
import Derived.Lib.Hide
import Derived.Lib.AppendStr
import Derived.Deep.AppendLies
import Derived.Deep.AppendSrc
import Derived.Deep.Draws
import Derived.Deep.QuietTactic
import Derived.BigQuiet
import Derived.Deep.RegionWith
import Derived.Maps.AppendAt
import Derived.WalkSpells
import Derived.Orders
import Derived.Deep.Slices
import Derived.Deep.Fields
import Derived.ChangeArms
import Derived.Lib.OthersKept
import Derived.Lib.TrimU
import Derived.Lib.IndexAny
import Derived.Deep.LoopGhost
import Derived.Lib.Bytealg
import Derived.RangeFuncBox
import Derived.RangeFuncNested
import Derived.RangeFuncBound
import Derived.RangeFuncCalls
import Derived.RangeFuncLeaves
import Derived.Shelf.Abstract
import Derived.OwnWalkIn
import Derived.TacticsInMore
import Derived.LoopNIn
import Derived.LoopIn
import Derived.RangeFuncWrites
import Derived.Maps.OwnIn
import Derived.Maps.Views
import Derived.Laws.OwnMore
import Derived.Maps.OwnSet
import Derived.Test.YtgndcnknmkcacaaRows
import Derived.ProofKit
import Derived.OpenShut
import Derived.Carry
import Derived.Great.BuildSlice
import Derived.ArgAppend
import Derived.Laws.MakeOwn
import Derived.Laws.Cover3
import Derived.Laws.CopyRow
import Derived.MapKept
import Derived.Maps.RangeRun
import Derived.DeepKeys5
import Derived.WideKeyRuns
import Derived.Tactics
import Derived.Tactics2
import Derived.Defers
import Derived.Recover
import Derived.Laws.Pointers
import Derived.ChangeSlices
set_option linter.unusedVariables false
set_option linter.unusedSimpArgs false
set_option linter.unnecessarySimpa false
set_option linter.all false

namespace Go.Proofs.Ytgndcnknmkcacaa
set_option maxRecDepth 100000
open Go.RowKit

def TotP {α : Type} (x : Option α) (Q : α → Prop) : Prop := ∃ a, x = some a ∧ Q a
theorem TotP.pure {α : Type} {a : α} {Q : α → Prop} (h : Q a) : TotP (some a) Q := ⟨a, rfl, h⟩
theorem TotP.bind {α β : Type} {x : Option α} {R : α → Prop} {f : α → Option β} {Q : β → Prop} (h : TotP x R) (hf : ∀ a, R a → TotP (f a) Q) : TotP (x.bind f) Q := by
  obtain ⟨a, rfl, ha⟩ := h
  exact hf a ha
theorem TotP.cond {α : Type} {b : Bool} {x y : Option α} {Q : α → Prop} (h1 : b = true → TotP x Q) (h2 : b = false → TotP y Q) : TotP (bif b then x else y) Q := by
  cases b with
  | true => exact h1 rfl
  | false => exact h2 rfl
def Any {α : Type} : α → Prop := fun _ => True
theorem bx_tot {α β : Type} {x : Option (Int ⊕ α)} {f : α → Option (Int ⊕ β)} (h : TotP x Any) (hf : ∀ a, x = some (.inr a) → TotP (f a) Any) : TotP (bindX x f) Any := by
  obtain ⟨s, rfl, _⟩ := h
  cases s with
  | inl c => exact ⟨.inl c, rfl, trivial⟩
  | inr a => exact hf a rfl
theorem need_tot (ok : Bool) (e : Int) : TotP (lf_scope_need ok e) Any := by
  unfold lf_scope_need
  cases ok <;> exact ⟨_, rfl, trivial⟩
theorem need_ok {ok : Bool} {e : Int} {u : Unit} (h : lf_scope_need ok e = some (.inr u)) : ok = true := by
  unfold lf_scope_need at h
  cases ok with
  | true => rfl
  | false => simp at h
theorem bx_need {β : Type} {ok : Bool} {e : Int} {f : Unit → Option (Int ⊕ β)} (hf : ok = true → TotP (f ()) Any) : TotP (bindX (lf_scope_need ok e) f) Any :=
  bx_tot (need_tot _ _) fun _ h => hf (need_ok h)

/-! ### weights -/
def wA : List At → Nat
  | [] => 0
  | a :: l => 1 + wtL a.ts + wA l
def wG : List Gl → Nat
  | [] => 0
  | a :: l => 1 + wtL a.ts + wG l
def NmA (l : List At) : Prop := ∀ a ∈ l, a.n.size ≤ 9223372036854775807
def NmG (l : List Gl) : Prop := ∀ a ∈ l, a.n.size ≤ 9223372036854775807
theorem wr_step (m : Int) (s : Nat) (h1 : 0 ≤ m) (h2 : m ≤ 1000) (hs : s ≤ 9223372036854775807) : wr ((wr (m - 1)) - (wr (Int.tdiv (s : Int) 8))) = m - 1 - ((s / 8 : Nat) : Int) := by
  have e : Int.tdiv (s : Int) 8 = ((s / 8 : Nat) : Int) := by
    rw [Int.tdiv_eq_ediv_of_nonneg (by omega)]
    rfl
  rw [e, wr_eq (n := m - 1) (by omega), wr_eq (n := ((s / 8 : Nat) : Int)) (by omega), wr_eq (by omega)]
theorem x_weigh_eq (ts : List T) (m : Int) (h1 : -9223372036854775808 ≤ m) (h2 : m ≤ 1000) : x_weigh ts m 64 = some (weighF 64 ts m) := by
  rw [x_weigh, if_pos ⟨⟨h1, by omega⟩, by omega, by omega⟩]
  rfl
theorem ga_lf (k : Int → Option Bool) : ∀ (l : List At) (m : Int), m ≤ 1000 → NmA l → ∃ r, lf_constraintref03_GreatAtoms_L0 k l m = k r ∧ (0 ≤ r → (wA l : Int) + r ≤ m)
  | [], m, _, _ => ⟨m, by rw [lf_constraintref03_GreatAtoms_L0], fun _ => by simp [wA]⟩
  | a :: l, m, hm, hn => by
    rw [lf_constraintref03_GreatAtoms_L0]
    by_cases h : m ≥ 0
    · have hs := hn a (List.mem_cons_self ..)
      rw [decide_eq_true h, cond_true, wr_step m _ h hm hs, x_weigh_eq _ _ (by omega) (by omega), Option.bind_some]
      have h1 := weighF_ge 64 a.ts (m - 1 - ((a.n.size / 8 : Nat) : Int))
      have h2 := weigh_wt 64 a.ts (m - 1 - ((a.n.size / 8 : Nat) : Int))
      obtain ⟨r, e1, e2⟩ := ga_lf k l (weighF 64 a.ts (m - 1 - ((a.n.size / 8 : Nat) : Int))) (by omega) fun x hx => hn x (List.mem_cons_of_mem _ hx)
      refine ⟨r, e1, fun hr => ?_⟩
      have := e2 hr
      simp only [wA]
      omega
    · rw [decide_eq_false h, cond_false]
      exact ⟨m, rfl, fun hr => absurd hr h⟩
theorem gg_lf (k : Int → Option Bool) : ∀ (l : List Gl) (m : Int), m ≤ 1000 → NmG l → ∃ r, lf_constraintref03_GreatGoals_L0 k l m = k r ∧ (0 ≤ r → (wG l : Int) + r ≤ m)
  | [], m, _, _ => ⟨m, by rw [lf_constraintref03_GreatGoals_L0], fun _ => by simp [wG]⟩
  | a :: l, m, hm, hn => by
    rw [lf_constraintref03_GreatGoals_L0]
    by_cases h : m ≥ 0
    · have hs := hn a (List.mem_cons_self ..)
      rw [decide_eq_true h, cond_true, wr_step m _ h hm hs, x_weigh_eq _ _ (by omega) (by omega), Option.bind_some]
      have h1 := weighF_ge 64 a.ts (m - 1 - ((a.n.size / 8 : Nat) : Int))
      have h2 := weigh_wt 64 a.ts (m - 1 - ((a.n.size / 8 : Nat) : Int))
      obtain ⟨r, e1, e2⟩ := gg_lf k l (weighF 64 a.ts (m - 1 - ((a.n.size / 8 : Nat) : Int))) (by omega) fun x hx => hn x (List.mem_cons_of_mem _ hx)
      refine ⟨r, e1, fun hr => ?_⟩
      have := e2 hr
      simp only [wG]
      omega
    · rw [decide_eq_false h, cond_false]
      exact ⟨m, rfl, fun hr => absurd hr h⟩
theorem greatA_lf (l : List At) (m : Int) (hm : m ≤ 1000) (hn : NmA l) : TotP (lf_constraintref03_GreatAtoms l m) fun b => b = false → (wA l : Int) ≤ m := by
  unfold lf_constraintref03_GreatAtoms
  obtain ⟨r, e1, e2⟩ := ga_lf (fun m => some (decide (m < 0))) l m hm hn
  rw [e1]
  refine ⟨_, rfl, fun h => ?_⟩
  have := of_decide_eq_false h
  have := e2 (by omega)
  omega
theorem greatG_lf (l : List Gl) (m : Int) (hm : m ≤ 1000) (hn : NmG l) : TotP (lf_constraintref03_GreatGoals l m) fun b => b = false → (wG l : Int) ≤ m := by
  unfold lf_constraintref03_GreatGoals
  obtain ⟨r, e1, e2⟩ := gg_lf (fun m => some (decide (m < 0))) l m hm hn
  rw [e1]
  refine ⟨_, rfl, fun h => ?_⟩
  have := of_decide_eq_false h
  have := e2 (by omega)
  omega
structure Nm (r : S_api_Rule) : Prop where
  a : NmA r.f1_Keep
  b : NmA r.f2_Remove
  c : NmG r.f3_Guard
  d : NmG r.f4_Body
structure Bd (r : S_api_Rule) : Prop where
  a : wA r.f1_Keep ≤ 1000
  b : wA r.f2_Remove ≤ 1000
  c : wG r.f3_Guard ≤ 1000
  d : wG r.f4_Body ≤ 1000
theorem greatR_L0 (k : Option Bool) (l0 : List S_api_Rule) (m : Int) (hm : m ≤ 1000) (kb : Bool) (hk : k = some kb) : ∀ l : List S_api_Rule, (∀ r ∈ l, Nm r) → TotP (lf_constraintref03_GreatRules_L0 k l0 m l) fun b => b = false → ∀ r ∈ l, Bd r
  | [], _ => by rw [lf_constraintref03_GreatRules_L0, hk]; exact ⟨_, rfl, fun _ r h => by cases h⟩
  | r :: l, hn => by
    have h := hn r (List.mem_cons_self ..)
    rw [lf_constraintref03_GreatRules_L0]
    refine .cond (fun _ => .pure fun h => by cases h) fun _ => ?_
    refine .cond (fun _ => .pure fun h => by cases h) fun _ => ?_
    refine .bind (greatA_lf _ m hm h.a) fun x hx => .cond (fun _ => .pure fun h => by cases h) fun h1 => ?_
    refine .bind (greatA_lf _ m hm h.b) fun y hy => .cond (fun _ => .pure fun h => by cases h) fun h2 => ?_
    refine .bind (greatG_lf _ m hm h.c) fun z hz => .cond (fun _ => .pure fun h => by cases h) fun h3 => ?_
    refine .bind (greatG_lf _ m hm h.d) fun u hu => .cond (fun _ => .pure fun h => by cases h) fun h4 => ?_
    obtain ⟨b, e1, e2⟩ := greatR_L0 k l0 m hm kb hk l fun x hx => hn x (List.mem_cons_of_mem _ hx)
    have := hx h1; have := hy h2; have := hz h3; have := hu h4
    exact ⟨b, e1, fun hb x hx => (List.mem_cons.1 hx).elim (fun e => e ▸ ⟨by omega, by omega, by omega, by omega⟩) (e2 hb x)⟩
theorem great_L0 {Q : Bool → Prop} (hQ : Q true) (k : Option Bool) (hk : TotP k Q) : ∀ l : List S_api_Decl, TotP (lf_constraintref15_Great_L0 k l) Q
  | [] => by rw [lf_constraintref15_Great_L0]; exact hk
  | d :: l => by
    rw [lf_constraintref15_Great_L0]
    exact .cond (fun _ => .pure hQ) fun _ => great_L0 hQ k hk l
theorem great_lf (p : S_api_Program) (m : Int) (hm : m ≤ 1000) (hn : ∀ r ∈ p.f1_Rules, Nm r) : TotP (lf_constraintref15_Great p m) fun b => b = false → ∀ r ∈ p.f1_Rules, Bd r := by
  unfold lf_constraintref15_Great
  refine .cond (fun _ => .pure fun h => by cases h) fun _ => .cond (fun _ => .pure fun h => by cases h) fun _ => great_L0 (fun h => by cases h) _ ?_ _
  exact .bind (greatR_L0 _ _ m hm false rfl _ hn) fun b hb => .pure hb

/-! ### the checks end -/
theorem uo_len (ts : List T) : (uniq [] (occL ts)).length ≤ wtL ts := by
  have := uniq_len (occL ts) []
  have := occL_wt ts
  simp at *
  omega
theorem av_L1 {Q : List Int → Prop} (k : List Int → Option (List Int)) : ∀ (l : List At) (out : List Int), out.length + wA l ≤ 1000000 → (∀ o, o.length ≤ out.length + wA l → TotP (k o) Q) → TotP (lf_scope_atomVars_L1 k l out) Q
  | [], out, _, h => by rw [lf_scope_atomVars_L1]; exact h out (by omega)
  | a :: l, out, hb, h => by
    have hu := uo_len a.ts
    simp only [wA] at hb h
    rw [lf_scope_atomVars_L1, x_varsA_eq _ (by omega), Option.bind_some, appO_eq (by omega) (by omega), Option.bind_some]
    refine av_L1 k l _ (by rw [List.length_append]; omega) fun o ho => h o ?_
    rw [List.length_append] at ho
    omega
theorem avs_L1 {Q : List Int → Prop} (k : List Int → Option (List Int)) : ∀ (l : List At) (out : List Int), out.length + wA l ≤ 1000000 → (∀ o, o.length ≤ out.length + wA l → TotP (k o) Q) → TotP (lf_scope_atomVars_s1_L1 k l out) Q
  | [], out, _, h => by rw [lf_scope_atomVars_s1_L1]; exact h out (by omega)
  | a :: l, out, hb, h => by
    have hu := uo_len a.ts
    simp only [wA] at hb h
    rw [lf_scope_atomVars_s1_L1, x_varsA_eq _ (by omega), Option.bind_some, appO_eq (by omega) (by omega), Option.bind_some]
    refine avs_L1 k l _ (by rw [List.length_append]; omega) fun o ho => h o ?_
    rw [List.length_append] at ho
    omega
theorem gv_L1 {Q : List Int → Prop} (k : List Int → Option (List Int)) : ∀ (l : List Gl) (out : List Int), out.length + wG l ≤ 1000000 → (∀ o, o.length ≤ out.length + wG l → TotP (k o) Q) → TotP (lf_scope_goalVars_L1 k l out) Q
  | [], out, _, h => by rw [lf_scope_goalVars_L1]; exact h out (by omega)
  | a :: l, out, hb, h => by
    have hu := uo_len a.ts
    simp only [wG] at hb h
    rw [lf_scope_goalVars_L1, x_varsG_eq _ (by omega), Option.bind_some, appO_eq (by omega) (by omega), Option.bind_some]
    refine gv_L1 k l _ (by rw [List.length_append]; omega) fun o ho => h o ?_
    rw [List.length_append] at ho
    omega
theorem av_tot (a b : List At) (ha : wA a ≤ 1000) (hb : wA b ≤ 1000) : TotP (lf_scope_atomVars [a, b]) fun o => o.length ≤ 2000 := by
  rw [lf_scope_atomVars, lf_scope_atomVars_L0]
  refine av_L1 _ _ _ (by simp; omega) fun o ho => ?_
  rw [lf_scope_atomVars_L0]
  simp only [List.length_nil] at ho
  refine av_L1 _ _ _ (by omega) fun o' ho' => ?_
  rw [lf_scope_atomVars_L0]
  exact .pure (by omega)
theorem avs_tot (a b : List At) (ha : wA a ≤ 1000) (hb : wA b ≤ 1000) : TotP (lf_scope_atomVars_s1 [a, b]) fun o => o.length ≤ 2000 := by
  rw [lf_scope_atomVars_s1, lf_scope_atomVars_s1_L0]
  refine avs_L1 _ _ _ (by simp; omega) fun o ho => ?_
  rw [lf_scope_atomVars_s1_L0]
  simp only [List.length_nil] at ho
  refine avs_L1 _ _ _ (by omega) fun o' ho' => ?_
  rw [lf_scope_atomVars_s1_L0]
  exact .pure (by omega)
theorem gv_tot2 (a b : List Gl) (ha : wG a ≤ 1000) (hb : wG b ≤ 1000) : TotP (lf_scope_goalVars [a, b]) fun o => o.length ≤ 2000 := by
  rw [lf_scope_goalVars, lf_scope_goalVars_L0]
  refine gv_L1 _ _ _ (by simp; omega) fun o ho => ?_
  rw [lf_scope_goalVars_L0]
  simp only [List.length_nil] at ho
  refine gv_L1 _ _ _ (by omega) fun o' ho' => ?_
  rw [lf_scope_goalVars_L0]
  exact .pure (by omega)
theorem gv_tot1 (a : List Gl) (ha : wG a ≤ 1000) : TotP (lf_scope_goalVars [a]) fun o => o.length ≤ 2000 := by
  rw [lf_scope_goalVars, lf_scope_goalVars_L0]
  refine gv_L1 _ _ _ (by simp; omega) fun o ho => ?_
  rw [lf_scope_goalVars_L0]
  simp only [List.length_nil] at ho
  exact .pure (by omega)
theorem ixf_L0 (k : Option Int) (hk : TotP k Any) (s : ByteArray) : ∀ (l : List S_api_Decl) (i : Nat), TotP (lf_slices_IndexFunc_s4_L0 k s l i) Any
  | [], i => by rw [lf_slices_IndexFunc_s4_L0]; exact hk
  | d :: l, i => by
    rw [lf_slices_IndexFunc_s4_L0, lf_scope_declared_1, Option.bind_some]
    exact .cond (fun _ => .pure trivial) fun _ => ixf_L0 k hk s l _
theorem ixd_L0 (k : Option Int) (hk : TotP k Any) (s : S_api_Decl) : ∀ (l : List S_api_Decl) (i : Nat), TotP (lf_slices_Index_api_Decl_api_Decl_L0 k s l i) Any
  | [], i => by rw [lf_slices_Index_api_Decl_api_Decl_L0]; exact hk
  | d :: l, i => by
    rw [lf_slices_Index_api_Decl_api_Decl_L0]
    exact .cond (fun _ => .pure trivial) fun _ => ixd_L0 k hk s l _
theorem ixi_L0 (k : Option Int) (hk : TotP k Any) (s : Int) : ∀ (l : List Int) (i : Nat), TotP (lf_slices_Index_int_int_L0 k s l i) Any
  | [], i => by rw [lf_slices_Index_int_int_L0]; exact hk
  | d :: l, i => by
    rw [lf_slices_Index_int_int_L0]
    exact .cond (fun _ => .pure trivial) fun _ => ixi_L0 k hk s l _
theorem declared_tot (ds : List S_api_Decl) (s : ByteArray) (n : Int) : TotP (lf_scope_declared ds s n) Any := by
  unfold lf_scope_declared lf_slices_ContainsFunc_s3 lf_slices_IndexFunc_s4 lf_scope_Declared lf_slices_Contains_api_Decl_api_Decl lf_slices_Index_api_Decl_api_Decl
  refine .bind (.bind (ixf_L0 _ ⟨_, rfl, trivial⟩ _ _ _) fun _ _ => .pure (Q := Any) trivial) fun _ _ => bx_need fun _ => ?_
  refine .bind (.bind (.bind (ixd_L0 _ ⟨_, rfl, trivial⟩ _ _ _) fun _ _ => .pure (Q := Any) trivial) fun _ _ => .pure (Q := Any) trivial) fun _ _ => bx_need fun _ => .pure trivial
theorem calls_L0 (k : Option (Int ⊕ Unit)) (hk : TotP k Any) (ds : List S_api_Decl) : ∀ l : List Gl, TotP (lf_scope_calls_L0 k ds l) Any
  | [] => by rw [lf_scope_calls_L0]; exact hk
  | g :: l => by
    rw [lf_scope_calls_L0]
    exact .cond (fun _ => bx_tot (declared_tot _ _ _) fun _ _ => calls_L0 k hk ds l) fun _ => calls_L0 k hk ds l
theorem calls_tot (ds : List S_api_Decl) (l : List Gl) : TotP (lf_scope_calls ds l) Any := calls_L0 _ ⟨_, rfl, trivial⟩ _ _
theorem test_tot (n : Int) : TotP (lf_scope_test n) Any := by
  unfold lf_scope_test
  exact .cond (fun _ => .pure trivial) fun _ => .pure trivial
theorem cr_L6 (k : Option (Int ⊕ Unit)) (hk : TotP k Any) (v : List Int) : ∀ l : List Int, TotP (lf_scope_CheckRule_1_L6 k v l) Any
  | [] => by rw [lf_scope_CheckRule_1_L6]; exact hk
  | x :: l => by
    rw [lf_scope_CheckRule_1_L6, lf_slices_Contains_int_int, lf_slices_Index_int_int]
    exact .bind (.bind (ixi_L0 _ ⟨_, rfl, trivial⟩ _ _ _) fun _ _ => .pure (Q := Any) trivial) fun _ _ => bx_need fun _ => cr_L6 k hk v l
theorem cr_L5 (k : Option (Int ⊕ Unit)) (hk : TotP k Any) : ∀ l : List Gl, TotP (lf_scope_CheckRule_1_L5 k l) Any
  | [] => by rw [lf_scope_CheckRule_1_L5]; exact hk
  | x :: l => by
    rw [lf_scope_CheckRule_1_L5]
    exact .bind (test_tot _) fun _ _ => bx_need fun _ => cr_L5 k hk l
theorem cr_L4 (k : Option (Int ⊕ Unit)) (hk : TotP k Any) : ∀ l : List Gl, TotP (lf_scope_CheckRule_1_L4 k l) Any
  | [] => by rw [lf_scope_CheckRule_1_L4]; exact hk
  | x :: l => by
    rw [lf_scope_CheckRule_1_L4]
    exact .bind (test_tot _) fun _ _ => .cond (fun _ => bx_need fun _ => cr_L4 k hk l) fun _ => bx_need fun _ => cr_L4 k hk l
theorem cr_L7 (k : Option (Int ⊕ Unit)) (hk : TotP k Any) (ds : List S_api_Decl) : ∀ l : List At, TotP (lf_scope_CheckRule_1_L7 k ds l) Any
  | [] => by rw [lf_scope_CheckRule_1_L7]; exact hk
  | x :: l => by
    rw [lf_scope_CheckRule_1_L7]
    exact bx_tot (declared_tot _ _ _) fun _ _ => cr_L7 k hk ds l
theorem cr_L8 (k : Option (Int ⊕ Unit)) (hk : TotP k Any) : ∀ l : List Gl, wG l ≤ 1000 → TotP (lf_scope_CheckRule_1_L8 k l) Any
  | [], _ => by rw [lf_scope_CheckRule_1_L8]; exact hk
  | x :: l, h => by
    simp only [wG] at h
    rw [lf_scope_CheckRule_1_L8, x_rightG_eq _ (by omega), Option.bind_some]
    exact bx_need fun _ => cr_L8 k hk l (by omega)
theorem cr_L9 (k : Option (Int ⊕ Unit)) (hk : TotP k Any) : ∀ l : List At, wA l ≤ 1000 → TotP (lf_scope_CheckRule_1_L9 k l) Any
  | [], _ => by rw [lf_scope_CheckRule_1_L9]; exact hk
  | x :: l, h => by
    simp only [wA] at h
    rw [lf_scope_CheckRule_1_L9, x_rightA_eq _ (by omega), Option.bind_some]
    exact bx_need fun _ => cr_L9 k hk l (by omega)
theorem cr_L2 (k : Int → Option (Int ⊕ Unit)) (hk : ∀ n, TotP (k n) Any) : ∀ (l : List Int) (n : Int), TotP (lf_scope_CheckRule_1_L2 k l n) Any
  | [], n => by rw [lf_scope_CheckRule_1_L2]; exact hk n
  | x :: l, n => by
    rw [lf_scope_CheckRule_1_L2]
    exact bx_need fun _ => .cond (fun _ => cr_L2 k hk l _) fun _ => cr_L2 k hk l _
theorem cr_L3 (k : Option (Int ⊕ Unit)) (hk : TotP k Any) (r : S_api_Rule) (ds : List S_api_Decl) : TotP (lf_scope_CheckRule_1_L3 k r ds (2 - 0 : Int).toNat 0) Any :=
  (cr_L7 _ (cr_L7 _ hk ds r.f2_Remove) ds r.f1_Keep : TotP (lf_scope_CheckRule_1_L7 (lf_scope_CheckRule_1_L7 k ds r.f2_Remove) ds r.f1_Keep) Any)
theorem cr_L1 (k : Option (Int ⊕ Unit)) (hk : TotP k Any) (r : S_api_Rule) (h : Bd r) : TotP (lf_scope_CheckRule_1_L1 k r (2 - 0 : Int).toNat 0) Any :=
  (cr_L8 _ (cr_L8 _ hk r.f4_Body h.d) r.f3_Guard h.c : TotP (lf_scope_CheckRule_1_L8 (lf_scope_CheckRule_1_L8 k r.f4_Body) r.f3_Guard) Any)
theorem cr_L0 (k : Option (Int ⊕ Unit)) (hk : TotP k Any) (r : S_api_Rule) (h : Bd r) : TotP (lf_scope_CheckRule_1_L0 k r (2 - 0 : Int).toNat 0) Any :=
  (cr_L9 _ (cr_L9 _ hk r.f2_Remove h.b) r.f1_Keep h.a : TotP (lf_scope_CheckRule_1_L9 (lf_scope_CheckRule_1_L9 k r.f2_Remove) r.f1_Keep) Any)
theorem rule_tot (ds : List S_api_Decl) (r : S_api_Rule) (h : Bd r) : TotP (lf_scope_CheckRule ds r) Any := by
  unfold lf_scope_CheckRule lf_scope_CheckRule_1
  refine .bind (R := Any) ?_ fun _ _ => .pure trivial
  unfold lf_scope_CheckRule_1_J0
  have key : TotP (lf_scope_CheckRule_1_L0 (lf_scope_CheckRule_1_L1 ((lf_scope_atomVars_s1 [r.f1_Keep, r.f2_Remove]).bind fun r_3 =>
    (lf_scope_goalVars [r.f3_Guard, r.f4_Body]).bind fun r_5 =>
    (appO 8 r_3 r_5).bind fun l_6 =>
    lf_scope_CheckRule_1_L2 (fun next_11 =>
    bindX (lf_scope_need (r.f5_Vars == next_11) 2) fun _ =>
    lf_scope_CheckRule_1_J1 (lf_scope_CheckRule_1_L3 (bindX (lf_scope_calls ds r.f3_Guard) fun _ =>
    bindX (lf_scope_calls ds r.f4_Body) fun _ =>
    lf_scope_CheckRule_1_L4 (lf_scope_CheckRule_1_L5 ((lf_scope_atomVars [r.f1_Keep, r.f2_Remove]).bind fun r_18 =>
    (lf_scope_goalVars [r.f3_Guard]).bind fun r_19 =>
    lf_scope_CheckRule_1_L6 (some (.inr ())) r_18 r_19) r.f4_Body) r.f3_Guard) r ds (2 - 0 : Int).toNat 0) r) l_6 0) r (2 - 0 : Int).toNat 0) r (2 - 0 : Int).toNat 0) Any := by
    refine cr_L0 _ (cr_L1 _ ?_ r h) r h
    refine .bind (avs_tot _ _ h.a h.b) fun x hx => .bind (gv_tot2 _ _ h.c h.d) fun y hy => ?_
    rw [appO_eq (by omega) (by omega), Option.bind_some]
    refine cr_L2 _ (fun n => bx_need fun _ => ?_) _ _
    have k3 : TotP (lf_scope_CheckRule_1_L3 (bindX (lf_scope_calls ds r.f3_Guard) fun _ =>
      bindX (lf_scope_calls ds r.f4_Body) fun _ =>
      lf_scope_CheckRule_1_L4 (lf_scope_CheckRule_1_L5 ((lf_scope_atomVars [r.f1_Keep, r.f2_Remove]).bind fun r_18 =>
      (lf_scope_goalVars [r.f3_Guard]).bind fun r_19 =>
      lf_scope_CheckRule_1_L6 (some (.inr ())) r_18 r_19) r.f4_Body) r.f3_Guard) r ds (2 - 0 : Int).toNat 0) Any := by
      refine cr_L3 _ (bx_tot (calls_tot _ _) fun _ _ => bx_tot (calls_tot _ _) fun _ _ => cr_L4 _ (cr_L5 _ ?_ _) _) r ds
      exact .bind (av_tot _ _ h.a h.b) fun _ _ => .bind (gv_tot1 _ h.c) fun _ _ => cr_L6 _ ⟨_, rfl, trivial⟩ _ _
    unfold lf_scope_CheckRule_1_J1
    refine .cond (fun _ => bx_need fun _ => k3) fun _ => ?_
    rw [x_isName_eq _ trivial, Option.bind_some]
    exact bx_need fun _ => k3
  exact .cond (fun _ => .cond (fun _ => .cond (fun _ => bx_need fun _ => key) fun _ => bx_need fun _ => key) fun _ => bx_need fun _ => key) fun _ => bx_need fun _ => key
end Go.Proofs.Ytgndcnknmkcacaa


namespace Go.Proofs.Ytgndcnknmkcacaa
set_option maxRecDepth 100000
open Go.RowKit

set_option maxRecDepth 100000 in
theorem live15 : lf_constraintlaw15_live = some true := by
  kernel_rfl

theorem mputO_eq {α β : Type} [DecidableEq α] (l : List (α × β)) (x : α) (d : β) (h : l.length < 9223372036854775807) : mputO l x d = some (mput l x d) := if_pos h
theorem need_inl {ok : Bool} {e c : Int} (h : lf_scope_need ok e = some (.inl c)) : c = e := by
  unfold lf_scope_need at h
  cases ok <;> simp at h
  exact h.symm
theorem c1_L0 (k : Option (Int ⊕ Unit)) (hk : TotP k Any) : ∀ (l : List S_api_Decl) (m : List (S_api_Decl × Bool)), m.length + l.length ≤ 1000000 → TotP (lf_scope_Check_1_L0 k l m) Any
  | [], m, _ => by rw [lf_scope_Check_1_L0]; exact hk
  | q :: l, m, h => by
    simp only [List.length_cons] at h
    have hl := mput_len m q true
    rw [lf_scope_Check_1_L0, x_isName_eq _ trivial, Option.bind_some, mputO_eq _ _ _ (by omega)]
    exact bx_need fun _ => .cond (fun _ => bx_need fun _ => bx_need fun _ => c1_L0 k hk l _ (by omega)) fun _ => bx_need fun _ => bx_need fun _ => c1_L0 k hk l _ (by omega)
theorem check1_tot (p : S_api_Program) : TotP (lf_scope_Check_1 p) Any := by
  unfold lf_scope_Check_1
  refine bx_need fun h => c1_L0 _ (bx_need fun _ => .pure trivial) _ _ ?_
  have := of_decide_eq_true h
  simp only [List.length_nil]
  omega
theorem c1_nz : ∀ (l : List S_api_Decl) (m : List (S_api_Decl × Bool)) (s : Int ⊕ Unit), lf_scope_Check_1_L0 (some (.inl 6)) l m = some s → caughtV s ≠ 0
  | [], m, s, h => by
    rw [lf_scope_Check_1_L0] at h
    obtain rfl := Option.some.inj h
    decide
  | q :: l, m, s, h => by
    rw [lf_scope_Check_1_L0, x_isName_eq _ trivial, Option.bind_some] at h
    have hn : ∀ {ok : Bool} {e c : Int}, lf_scope_need ok e = some (.inl c) → e ≠ 0 → (Sum.inl c : Int ⊕ Unit) = s → caughtV s ≠ 0 := fun h1 h2 h3 => by
      rw [← h3, need_inl h1]; exact h2
    have tail : ∀ m', ((mputO m q true).bind fun mm => lf_scope_Check_1_L0 (some (.inl 6)) l mm) = some s → m' = m → caughtV s ≠ 0 := fun m' h _ => by
      obtain ⟨mm, _, h⟩ := bindS h
      exact c1_nz l mm s h
    rcases bindXS h with ⟨c, h1, h2⟩ | ⟨_, _, h⟩
    · exact hn h1 (by decide) h2
    · cases hb : decide (q.f1_Arity ≥ (0 : Int)) with
      | true =>
        rw [hb, cond_true] at h
        rcases bindXS h with ⟨c, h1, h2⟩ | ⟨_, _, h⟩
        · exact hn h1 (by decide) h2
        · rcases bindXS h with ⟨c, h1, h2⟩ | ⟨_, _, h⟩
          · exact hn h1 (by decide) h2
          · exact tail m h rfl
      | false =>
        rw [hb, cond_false] at h
        rcases bindXS h with ⟨c, h1, h2⟩ | ⟨_, _, h⟩
        · exact hn h1 (by decide) h2
        · rcases bindXS h with ⟨c, h1, h2⟩ | ⟨_, _, h⟩
          · exact hn h1 (by decide) h2
          · exact tail m h rfl
theorem check1_few {p : S_api_Program} {s : Int ⊕ Unit} (h : lf_scope_Check_1 p = some s) (h0 : caughtV s = 0) : p.f1_Rules.length ≤ 40 := by
  refine Classical.byContradiction fun hc => ?_
  unfold lf_scope_Check_1 at h
  rcases bindXS h with ⟨c, h1, h2⟩ | ⟨_, _, h⟩
  · rw [← h2, need_inl h1] at h0
    exact absurd h0 (by decide)
  · rw [decide_eq_false (p := (p.f1_Rules.length : Int) ≤ 40) (by omega)] at h
    exact c1_nz _ _ _ h h0
theorem check1_less {p p' : S_api_Program} {s : Int ⊕ Unit} (h : lf_scope_Check_1 p = some s) (h0 : caughtV s = 0) (hd : p'.f0_Decls = p.f0_Decls) (hr : p'.f1_Rules.length ≤ p.f1_Rules.length) : lf_scope_Check_1 p' = some s := by
  have hf := check1_few h h0
  rw [← h]
  unfold lf_scope_Check_1
  rw [hd, decide_eq_true (p := (p.f1_Rules.length : Int) ≤ 40) (by omega), decide_eq_true (p := (p'.f1_Rules.length : Int) ≤ 40) (by omega)]
theorem cl_spec (p : S_api_Program) : ∀ (l : List S_api_Rule) (i : Nat) (n e : Int), lf_scope_Check_L0 (some (0, 0)) p l i = some (n, e) → (n = 0 ∧ e = 0) ∨ (e ≠ 0 ∧ ∃ (j : Nat) (q : S_api_Rule), n = ((i + j : Nat) : Int) ∧ l[j]? = some q ∧ lf_scope_CheckRule p.f0_Decls q = some e ∧ ∀ x ∈ l.take j, lf_scope_CheckRule p.f0_Decls x = some 0)
  | [], i, n, e, h => by
    rw [lf_scope_Check_L0] at h
    have := Option.some.inj h
    exact .inl ⟨(congrArg Prod.fst this).symm, (congrArg Prod.snd this).symm⟩
  | q :: l, i, n, e, h => by
    rw [lf_scope_Check_L0] at h
    obtain ⟨v, hv, h⟩ := bindS h
    by_cases h0 : v = 0
    · subst h0
      rw [show ((0 : Int) != 0) = false from rfl, cond_false] at h
      rcases cl_spec p l (i + 1) n e h with h | ⟨h1, j, r, h2, h3, h4, h5⟩
      · exact .inl h
      · refine .inr ⟨h1, j + 1, r, by omega, by simpa using h3, h4, fun x hx => ?_⟩
        rw [List.take_succ_cons] at hx
        exact (List.mem_cons.1 hx).elim (fun e => e ▸ hv) (h5 x)
    · rw [show (v != 0) = true by simpa using h0, cond_true] at h
      have := Option.some.inj h
      obtain rfl : v = e := congrArg Prod.snd this
      exact .inr ⟨h0, 0, q, (congrArg Prod.fst this).symm, rfl, hv, fun x hx => by simp at hx⟩
theorem cl_zero (p : S_api_Program) : ∀ (l : List S_api_Rule) (i : Nat), (∀ x ∈ l, lf_scope_CheckRule p.f0_Decls x = some 0) → lf_scope_Check_L0 (some (0, 0)) p l i = some (0, 0)
  | [], i, _ => by rw [lf_scope_Check_L0]
  | q :: l, i, h => by
    rw [lf_scope_Check_L0, h q (List.mem_cons_self ..), Option.bind_some]
    exact cl_zero p l _ fun x hx => h x (List.mem_cons_of_mem _ hx)
theorem cl_tot (p : S_api_Program) : ∀ (l : List S_api_Rule) (i : Nat), (∀ x ∈ l, Bd x) → TotP (lf_scope_Check_L0 (some (0, 0)) p l i) Any
  | [], i, _ => by rw [lf_scope_Check_L0]; exact .pure trivial
  | q :: l, i, h => by
    rw [lf_scope_Check_L0]
    exact .bind (rule_tot _ _ (h q (List.mem_cons_self ..))) fun _ _ => .cond (fun _ => .pure trivial) fun _ => cl_tot p l _ fun x hx => h x (List.mem_cons_of_mem _ hx)
theorem check_eq {p : S_api_Program} {s : Int ⊕ Unit} (h : lf_scope_Check_1 p = some s) (h0 : caughtV s = 0) : lf_scope_Check p = lf_scope_Check_L0 (some (0, 0)) p p.f1_Rules 0 := by
  rw [lf_scope_Check, h, Option.bind_some, h0]
  rfl
theorem first_lf (p : S_api_Program) (hn : ∀ r ∈ p.f1_Rules, Nm r) : lf_constraintlaw15_ScopeFirst p = some true := by
  rw [lf_constraintlaw15_ScopeFirst, live15, Option.bind_some]
  simp only [Bool.not_true, cond_false]
  obtain ⟨b, e1, e2⟩ := great_lf p 300 (by omega) hn
  rw [e1, Option.bind_some]
  cases b with
  | true => rfl
  | false =>
    rw [cond_false]
    have hB := e2 rfl
    obtain ⟨s, hs, _⟩ := check1_tot p
    by_cases h0 : caughtV s = 0
    · have hf := check1_few hs h0
      obtain ⟨⟨n, e⟩, hL, _⟩ := cl_tot p p.f1_Rules 0 hB
      rw [check_eq hs h0, hL, Option.bind_some]
      rcases cl_spec p _ _ _ _ hL with ⟨rfl, rfl⟩ | ⟨he, j, q, rfl, hj, hq, hz⟩
      · rfl
      · have hlt : j < p.f1_Rules.length := (List.getElem?_eq_some_iff.1 hj).1
        rw [Nat.zero_add] at *
        have t1 : subO p.f1_Rules 0 (j : Int) = some (p.f1_Rules.take j) := by
          rw [subO, if_pos ⟨by omega, by omega, by omega⟩]
          simp
        have t2 : subO p.f1_Rules (j : Int) (wr ((j : Int) + 1)) = some [q] := by
          rw [wr_eq (by omega), subO, if_pos ⟨by omega, by omega, by omega⟩]
          have e3 : ((j : Int) + 1).toNat = j + 1 := by omega
          have e4 : ((j : Int)).toNat = j := by omega
          rw [e3, e4, List.take_succ, hj]
          simp [List.drop_append, List.length_take, Nat.min_eq_left (Nat.le_of_lt hlt)]
        have c1 : lf_scope_Check ⟨p.f0_Decls, p.f1_Rules.take j⟩ = some (0, 0) := by
          rw [check_eq (check1_less (p' := ⟨p.f0_Decls, p.f1_Rules.take j⟩) hs h0 rfl (by simp; omega)) h0]
          exact cl_zero _ _ _ hz
        have c2 : lf_scope_Check ⟨p.f0_Decls, [q]⟩ = some (0, e) := by
          rw [check_eq (check1_less (p' := ⟨p.f0_Decls, [q]⟩) hs h0 rfl (by simp; omega)) h0, lf_scope_Check_L0, hq, Option.bind_some, show (e != 0) = true by simpa using he]
          rfl
        have g1 : getI p.f1_Rules (j : Int) = some q := (getI_nat _ _).trans hj
        have b1 : (e == (0 : Int)) = false := by simpa using he
        have b2 : ((j : Int) == (-1 : Int)) = false := by
          simp only [beq_eq_false_iff_ne]; omega
        have b3 : decide ((j : Int) < 0) = false := decide_eq_false (by omega)
        have b4 : decide ((j : Int) ≥ (p.f1_Rules.length : Int)) = false := decide_eq_false (by omega)
        simp only [b1, b2, b3, b4, cond_false, t1, t2, Option.bind_some, c1, c2, g1, hq]
        simp
    · have hx : (caughtV s != 0) = true := by simpa using h0
      rw [lf_scope_Check, hs, Option.bind_some, hx, cond_true, Option.bind_some]
      simp [h0, hx]

/-! ### names are strings of the machine -/
theorem reps_in {p : Addr → Prop} {w : World} : ∀ {ds : List D} {cs : List Value}, Reps p w ds cs → ∀ d ∈ ds, ∃ v, Rep p w d v
  | [], _, _, _, h => by cases h
  | x :: ds, cs, h, d, hd => by
    simp only [Reps] at h
    obtain ⟨v, rest, _, h1, h2⟩ := h
    exact (List.mem_cons.1 hd).elim (fun e => e ▸ ⟨v, h1⟩) (reps_in h2 d)
theorem agg_mem {p : Addr → Prop} {w : World} {fs : List D} {v : Value} (h : Rep p w (.agg fs) v) (d : D) (hd : d ∈ fs) : ∃ v, Rep p w d v := by
  simp only [Rep] at h
  obtain ⟨cs, _, h, _⟩ := h
  exact reps_in h d hd
theorem lst_mem {α : Type} {f : α → D} {p : Addr → Prop} {w : World} {l : List α} {v : Value} (h : Rep p w (.lst (l.map f)) v) (a : α) (ha : a ∈ l) : ∃ v, Rep p w (f a) v := by
  simp only [Rep] at h
  obtain ⟨A, c, xs, _, _, _, _, h, _⟩ := h
  exact reps_in h _ (List.mem_map.2 ⟨a, ha, rfl⟩)
theorem str_le {p : Addr → Prop} {w : World} {s : ByteArray} {v : Value} (h : Rep p w (.str s) v) : s.size ≤ 9223372036854775807 := by
  simp only [Rep] at h
  exact h.2
theorem nmA_of {p : Addr → Prop} {w : World} {l : List At} {v : Value} (h : Rep p w (.lst (l.map encA)) v) : NmA l := fun a ha => by
  obtain ⟨v, h⟩ := lst_mem h a ha
  obtain ⟨v, h⟩ := agg_mem h (.str a.n) (by simp)
  exact str_le h
theorem nmG_of {p : Addr → Prop} {w : World} {l : List Gl} {v : Value} (h : Rep p w (.lst (l.map encG)) v) : NmG l := fun a ha => by
  obtain ⟨v, h⟩ := lst_mem h a ha
  obtain ⟨v, h⟩ := agg_mem h (.str a.n) (by simp)
  exact str_le h
theorem nm_of {p : Addr → Prop} {w : World} {r : S_api_Rule} {v : Value} (h : Rep p w (enc_S_api_Rule r) v) : Nm r := by
  obtain ⟨_, h1⟩ := agg_mem h (.lst (r.f1_Keep.map encA)) (by simp)
  obtain ⟨_, h2⟩ := agg_mem h (.lst (r.f2_Remove.map encA)) (by simp)
  obtain ⟨_, h3⟩ := agg_mem h (.lst (r.f3_Guard.map encG)) (by simp)
  obtain ⟨_, h4⟩ := agg_mem h (.lst (r.f4_Body.map encG)) (by simp)
  exact ⟨nmA_of h1, nmA_of h2, nmG_of h3, nmG_of h4⟩
theorem nmP_of {p : Addr → Prop} {w : World} {q : S_api_Program} {v : Value} (h : Rep p w (enc_S_api_Program q) v) : ∀ r ∈ q.f1_Rules, Nm r := fun r hr => by
  obtain ⟨_, h1⟩ := agg_mem h (.lst (q.f1_Rules.map enc_S_api_Rule)) (by simp)
  obtain ⟨_, h2⟩ := lst_mem h1 r hr
  exact nm_of h2
theorem gives_ScopeFirst (q : S_api_Program) : Gives Try.prog 8 [enc_S_api_Program q] (.bool true) := fun w p vs hi hv => by
  have hv' := hv
  simp only [Repl] at hv'
  obtain ⟨v, _, _, h, _⟩ := hv'
  exact lg_constraintlaw15_ScopeFirst q true (first_lf q (nmP_of h)) w p vs hi hv
end Go.Proofs.Ytgndcnknmkcacaa


namespace Go.Proofs.Ytgndcnknmkcacaa
set_option maxRecDepth 100000
open Go.RowKit

/-! ### the variables of the reference -/
theorem has_L0 (n : Int) : ∀ l : List Int, lf_constraintref03_has_L0 (some false) n l = some (decide (n ∈ l))
  | [] => by rw [lf_constraintref03_has_L0]; rfl
  | x :: l => by
    rw [lf_constraintref03_has_L0, has_L0 n l]
    by_cases h : x = n
    · subst h; simp
    · have h' : n ≠ x := fun e => h e.symm
      rw [beq_false_of_ne h]
      simp [h']
theorem has_lf (l : List Int) (n : Int) : lf_constraintref03_has l n = some (decide (n ∈ l)) := has_L0 n l
theorem refArgs_lf (t : T) : lf_constraintref03_args t = some t.used := by
  rw [lf_constraintref03_args, T.used]
  by_cases h : t.k = 2
  · rw [if_pos h, show (t.k == (2 : Int)) = true by simpa using h]; rfl
  · rw [if_neg h, show (t.k == (2 : Int)) = false by simpa using h]; rfl
theorem vars_L0 {rec : List Int → T → Option (List Int)} (k : List Int → Option (List Int)) : ∀ (ts : List T) (l : List Int) (m : Nat), (∀ t ∈ ts, ∀ l : List Int, l.length + wt t ≤ m → rec l t = some (uniq l (occT t))) → l.length + wtL ts ≤ m → lf_constraintref03_vars_s1_L0 k rec ts l = k (uniq l (occL ts))
  | [], l, m, _, _ => by rw [lf_constraintref03_vars_s1_L0]; simp [occL, uniq_nil]
  | t :: ts, l, m, h, hm => by
    simp only [wtL] at hm
    rw [lf_constraintref03_vars_s1_L0, h t (List.mem_cons_self ..) l (by omega)]
    simp only [Option.bind_some]
    have hl := uniq_len (occT t) l
    have ho := occ_wt t
    rw [vars_L0 k ts _ m (fun u hu => h u (List.mem_cons_of_mem _ hu)) (by omega), ← uniq_app]
    simp [occL]
theorem vars_lf : ∀ (fuel : Nat) (t : T) (l : List Int), wt t < fuel → l.length + wt t ≤ 1000000000 → lf_constraintref03_vars_s1 fuel l t = some (uniq l (occT t))
  | 0, _, _, h, _ => by omega
  | fuel + 1, t, l, h, hm => by
    rw [lf_constraintref03_vars_s1]
    have hwt := wt_eq t
    have key : ∀ l' : List Int, l'.length ≤ l.length + 1 → lf_constraintref03_vars_s1_L0 (fun l_9 => some l_9) (lf_constraintref03_vars_s1 fuel) t.used l' = some (uniq l' (occL t.used)) := fun l' hl' => by
      have hu := wtL_used t
      refine vars_L0 _ t.used l' (l'.length + wtL t.used) (fun u hu' l2 hl2 => vars_lf fuel u l2 ?_ ?_) (Nat.le_refl _)
      · have := wt_used hu'; omega
      · omega
    show lf_constraintref03_vars_s1_J0 _ _ _ = _
    unfold lf_constraintref03_vars_s1_J0
    rw [has_lf]
    simp only [Option.bind_some, refArgs_lf]
    by_cases hk : t.k = 1
    · rw [show (t.k == (1 : Int)) = true by simpa using hk]
      have hused : t.used = [] := by unfold T.used; rw [if_neg (by omega)]
      have hocc := occT_var hk
      simp only [cond_true]
      by_cases hx : t.i ∈ l
      · rw [decide_eq_true hx]
        simp only [Bool.not_true, cond_false]
        rw [key l (by omega), hocc, hused]
        simp [occL, uniq, addU, hx]
      · rw [decide_eq_false hx]
        simp only [Bool.not_false, cond_true]
        rw [appO_eq (by simp; omega) (by simp; omega)]
        simp only [Option.bind_some]
        rw [key _ (by simp), hocc, hused]
        simp [occL, uniq, addU, hx]
    · rw [show (t.k == (1 : Int)) = false by simpa using hk]
      simp only [cond_false]
      rw [key l (by omega), occT_eq hk]
theorem varsOf_L0 (fuel : Nat) (k : List Int → Option (List Int)) : ∀ (ts : List T) (l : List Int), wtL ts < fuel → l.length + wtL ts ≤ 1000000000 → lf_constraintref03_VarsOf_L0 k fuel ts l = k (uniq l (occL ts))
  | [], l, _, _ => by rw [lf_constraintref03_VarsOf_L0]; simp [occL, uniq_nil]
  | t :: ts, l, h, hm => by
    simp only [wtL] at h hm
    rw [lf_constraintref03_VarsOf_L0, vars_lf fuel t l (by omega) (by omega)]
    simp only [Option.bind_some]
    have hl := uniq_len (occT t) l
    have ho := occ_wt t
    rw [varsOf_L0 fuel k ts _ (by omega) (by omega), ← uniq_app]
    simp [occL]

theorem varsOf_lf (fuel : Nat) (ts : List T) (h : wtL ts < fuel) (hm : wtL ts ≤ 1000000000) : lf_constraintref03_VarsOf fuel ts = some (uniq [] (occL ts)) := by
  rw [lf_constraintref03_VarsOf, varsOf_L0 fuel _ ts [] h (by simpa using hm)]
theorem in_L0 (n : Int) : ∀ l : List Int, lf_constraintref15_in_L0 (some false) n l = some (decide (n ∈ l))
  | [] => by rw [lf_constraintref15_in_L0]; rfl
  | x :: l => by
    rw [lf_constraintref15_in_L0, in_L0 n l]
    by_cases h : x = n
    · subst h; simp
    · have h' : n ≠ x := fun e => h e.symm
      rw [beq_false_of_ne h]
      simp [h']
theorem in_lf (l : List Int) (n : Int) : lf_constraintref15_in l n = some (decide (n ∈ l)) := in_L0 n l

/-! ### the terms of atoms and goals -/
def tA : List At → List T
  | [] => []
  | a :: l => a.ts ++ tA l
def tGs : List Gl → List T
  | [] => []
  | a :: l => a.ts ++ tGs l
def vA : List At → List Int
  | [] => []
  | a :: l => uniq [] (occL a.ts) ++ vA l
def vG : List Gl → List Int
  | [] => []
  | a :: l => uniq [] (occL a.ts) ++ vG l
theorem tA_app : ∀ a b : List At, tA (a ++ b) = tA a ++ tA b
  | [], b => rfl
  | x :: a, b => by simp [tA, tA_app a b]
theorem tGs_app : ∀ a b : List Gl, tGs (a ++ b) = tGs a ++ tGs b
  | [], b => rfl
  | x :: a, b => by simp [tGs, tGs_app a b]
theorem vA_app : ∀ a b : List At, vA (a ++ b) = vA a ++ vA b
  | [], b => rfl
  | x :: a, b => by simp [vA, vA_app a b]
theorem vG_app : ∀ a b : List Gl, vG (a ++ b) = vG a ++ vG b
  | [], b => rfl
  | x :: a, b => by simp [vG, vG_app a b]
theorem tA_wt : ∀ l : List At, wtL (tA l) ≤ wA l
  | [] => by simp [tA, wA, wtL]
  | a :: l => by
    have := tA_wt l
    simp only [tA, wA, wtL_app]
    omega
theorem tGs_wt : ∀ l : List Gl, wtL (tGs l) ≤ wG l
  | [] => by simp [tGs, wG, wtL]
  | a :: l => by
    have := tGs_wt l
    simp only [tGs, wG, wtL_app]
    omega
theorem wA_len : ∀ l : List At, l.length ≤ wA l
  | [] => by simp [wA]
  | a :: l => by
    have := wA_len l
    simp only [wA, List.length_cons]
    omega
theorem wG_len : ∀ l : List Gl, l.length ≤ wG l
  | [] => by simp [wG]
  | a :: l => by
    have := wG_len l
    simp only [wG, List.length_cons]
    omega
theorem vA_len : ∀ l : List At, (vA l).length ≤ wA l
  | [] => by simp [vA, wA]
  | a :: l => by
    have := vA_len l
    have := uo_len a.ts
    simp only [vA, wA, List.length_append]
    omega
theorem vG_len : ∀ l : List Gl, (vG l).length ≤ wG l
  | [] => by simp [vG, wG]
  | a :: l => by
    have := vG_len l
    have := uo_len a.ts
    simp only [vG, wG, List.length_append]
    omega
theorem mem_vA (x : Int) : ∀ l : List At, x ∈ vA l ↔ x ∈ occL (tA l)
  | [] => by simp [vA, tA, occL]
  | a :: l => by
    simp only [vA, tA, occL_app, List.mem_append, mem_vA x l, mem_uniq, List.not_mem_nil, false_or]
def addV (V out : List Int) (x : Int) : List Int := if x ∈ V ∨ x ∈ out then out else out ++ [x]
theorem mem_addV {V out : List Int} {x y : Int} (h : y ∈ V ∨ y ∈ out) : y ∈ V ∨ y ∈ addV V out x := by
  unfold addV
  split
  · exact h
  · exact h.imp id fun h => List.mem_append.2 (.inl h)
theorem mem_addV_self {V out : List Int} {x : Int} : x ∈ V ∨ x ∈ addV V out x := by
  unfold addV
  split
  · assumption
  · exact .inr (by simp)
theorem mem_foldV {V : List Int} {y : Int} : ∀ (l out : List Int), y ∈ V ∨ y ∈ out ∨ y ∈ l → y ∈ V ∨ y ∈ l.foldl (addV V) out
  | [], out, h => by simpa using h
  | x :: l, out, h => by
    rw [List.foldl_cons]
    apply mem_foldV l
    rcases h with h | h | h
    · exact .inl h
    · exact (mem_addV (.inr h)).imp id .inl
    · rcases List.mem_cons.1 h with rfl | h
      · exact mem_addV_self.imp id .inl
      · exact .inr (.inr h)
theorem foldV_uniq (V : List Int) : ∀ (xs l out : List Int), (uniq l xs).foldl (addV V) out = xs.foldl (addV V) (l.foldl (addV V) out)
  | [], l, out => rfl
  | x :: xs, l, out => by
    show (uniq (addU l x) xs).foldl (addV V) out = _
    rw [foldV_uniq V xs, List.foldl_cons]
    congr 1
    unfold addU
    split
    · rename_i h
      have := mem_foldV (V := V) l out (.inr (.inr h))
      rw [addV, if_pos this]
    · rw [List.foldl_append]
      rfl
theorem foldV_vG (V : List Int) : ∀ (l : List Gl) (out : List Int), (vG l).foldl (addV V) out = (occL (tGs l)).foldl (addV V) out
  | [], out => by simp [vG, tGs, occL]
  | a :: l, out => by
    simp only [vG, tGs, occL_app, List.foldl_append, foldV_uniq, List.foldl_nil, foldV_vG V l]
theorem addV_filter (V l : List Int) (x : Int) : addV V (l.filter fun y => !decide (y ∈ V)) x = (addU l x).filter fun y => !decide (y ∈ V) := by
  unfold addV addU
  by_cases h1 : x ∈ V
  · by_cases h2 : x ∈ l <;> simp [h1, h2]
  · by_cases h2 : x ∈ l <;> simp [h1, h2]
theorem foldV_filter (V : List Int) : ∀ (xs l : List Int), xs.foldl (addV V) (l.filter fun y => !decide (y ∈ V)) = (uniq l xs).filter fun y => !decide (y ∈ V)
  | [], l => rfl
  | x :: xs, l => by
    rw [List.foldl_cons, addV_filter, foldV_filter V xs]
    rfl

/-! ### the program's lists in closed form -/
theorem av_eq (k : List Int → Option (List Int)) : ∀ (l : List At) (out : List Int), out.length + wA l ≤ 1000000 → lf_scope_atomVars_L1 k l out = k (out ++ vA l)
  | [], out, _ => by rw [lf_scope_atomVars_L1]; simp [vA]
  | a :: l, out, hb => by
    have hu := uo_len a.ts
    simp only [wA] at hb
    rw [lf_scope_atomVars_L1, x_varsA_eq _ (by omega), Option.bind_some, appO_eq (by omega) (by omega), Option.bind_some, av_eq k l _ (by rw [List.length_append]; omega)]
    simp [vA]
theorem gv_eq (k : List Int → Option (List Int)) : ∀ (l : List Gl) (out : List Int), out.length + wG l ≤ 1000000 → lf_scope_goalVars_L1 k l out = k (out ++ vG l)
  | [], out, _ => by rw [lf_scope_goalVars_L1]; simp [vG]
  | a :: l, out, hb => by
    have hu := uo_len a.ts
    simp only [wG] at hb
    rw [lf_scope_goalVars_L1, x_varsG_eq _ (by omega), Option.bind_some, appO_eq (by omega) (by omega), Option.bind_some, gv_eq k l _ (by rw [List.length_append]; omega)]
    simp [vG]
theorem atomVars_eq (a b : List At) (ha : wA a ≤ 1000) (hb : wA b ≤ 1000) : lf_scope_atomVars [a, b] = some (vA (a ++ b)) := by
  have h1 := vA_len a
  rw [lf_scope_atomVars, lf_scope_atomVars_L0, av_eq _ _ _ (by simp; omega), lf_scope_atomVars_L0, av_eq _ _ _ (by simp; omega), lf_scope_atomVars_L0, vA_app]
  rfl
theorem goalVars_eq (a b : List Gl) (ha : wG a ≤ 1000) (hb : wG b ≤ 1000) : lf_scope_goalVars [a, b] = some (vG (a ++ b)) := by
  have h1 := vG_len a
  rw [lf_scope_goalVars, lf_scope_goalVars_L0, gv_eq _ _ _ (by simp; omega), lf_scope_goalVars_L0, gv_eq _ _ _ (by simp; omega), lf_scope_goalVars_L0, vG_app]
  rfl
theorem hv_L0 (k : List T → Option (List Int)) : ∀ (l : List At) (acc : List T), acc.length + wA l ≤ 1000000 → lf_constraintref15_headVars_L0 k l acc = k (acc ++ tA l)
  | [], acc, _ => by rw [lf_constraintref15_headVars_L0]; simp [tA]
  | a :: l, acc, h => by
    have h1 := len_wtL a.ts
    simp only [wA] at h
    rw [lf_constraintref15_headVars_L0, appO_eq (by omega) (by omega), Option.bind_some, hv_L0 k l _ (by rw [List.length_append]; omega)]
    simp [tA]
theorem lv_L0 (k : List T → Option (List Int)) : ∀ (l : List Gl) (acc : List T), acc.length + wG l ≤ 1000000 → lf_constraintref15_Locals_L0 k l acc = k (acc ++ tGs l)
  | [], acc, _ => by rw [lf_constraintref15_Locals_L0]; simp [tGs]
  | a :: l, acc, h => by
    have h1 := len_wtL a.ts
    simp only [wG] at h
    rw [lf_constraintref15_Locals_L0, appO_eq (by omega) (by omega), Option.bind_some, lv_L0 k l _ (by rw [List.length_append]; omega)]
    simp [tGs]
theorem ll_L0 (k : List (Int × Unit) → Option (List Int)) : ∀ (l : List Int) (m : List (Int × Unit)), m.length + l.length ≤ 1000000 → ∃ m', lf_scope_Locals_L0 k l m = k m' ∧ m'.length ≤ m.length + l.length ∧ ∀ x, (mget m' x).isSome = true ↔ (mget m x).isSome = true ∨ x ∈ l
  | [], m, _ => ⟨m, by rw [lf_scope_Locals_L0], by simp, fun x => by simp⟩
  | q :: l, m, h => by
    simp only [List.length_cons] at h
    have hl := mput_len m q ()
    obtain ⟨m', e1, e2, e3⟩ := ll_L0 k l (mput m q ()) (by omega)
    refine ⟨m', by rw [lf_scope_Locals_L0, mputO_eq _ _ _ (by omega), Option.bind_some, e1], by simp only [List.length_cons]; omega, fun x => ?_⟩
    rw [e3 x, mget_mput]
    by_cases hx : q = x
    · subst hx; simp
    · rw [if_neg hx, List.mem_cons]
      have : ¬ x = q := fun e => hx e.symm
      simp [this]
theorem ll_L1 (V : List Int) (k : List Int → Option (List Int)) : ∀ (l out : List Int) (m : List (Int × Unit)), m.length + l.length ≤ 1000000 → out.length + l.length ≤ 1000000 → (∀ x, (mget m x).isSome = true ↔ x ∈ V ∨ x ∈ out) → lf_scope_Locals_L1 k l out m = k (l.foldl (addV V) out)
  | [], out, m, _, _, _ => by rw [lf_scope_Locals_L1]; rfl
  | q :: l, out, m, h, h', hm => by
    simp only [List.length_cons] at h h'
    have hl := mput_len m q ()
    rw [lf_scope_Locals_L1, List.foldl_cons]
    by_cases hq : q ∈ V ∨ q ∈ out
    · rw [(hm q).2 hq, Bool.not_true, cond_false, addV, if_pos hq]
      exact ll_L1 V k l out m (by omega) (by omega) hm
    · have hf : (mget m q).isSome = false := Bool.eq_false_iff.2 fun e => hq ((hm q).1 e)
      rw [hf, Bool.not_false, cond_true, mputO_eq _ _ _ (by omega), Option.bind_some, appO_eq (by simp; omega) (by simp; omega), Option.bind_some, addV, if_neg hq]
      refine ll_L1 V k l _ _ (by omega) (by simp; omega) fun x => ?_
      rw [mget_mput]
      by_cases hx : q = x
      · subst hx; simp
      · rw [if_neg hx, hm x, List.mem_append, List.mem_singleton]
        have : ¬ x = q := fun e => hx e.symm
        simp [this]
theorem rl_L1 (V : List Int) (k : List Int → Option (List Int)) : ∀ (l out : List Int), out.length + l.length ≤ 1000000 → lf_constraintref15_Locals_L1 k V l out = k (out ++ l.filter fun y => !decide (y ∈ V))
  | [], out, _ => by rw [lf_constraintref15_Locals_L1]; simp
  | q :: l, out, h => by
    simp only [List.length_cons] at h
    rw [lf_constraintref15_Locals_L1, in_lf, Option.bind_some]
    by_cases hq : q ∈ V
    · rw [decide_eq_true hq, Bool.not_true, cond_false, rl_L1 V k l out (by omega)]
      simp [hq]
    · rw [decide_eq_false hq, Bool.not_false, cond_true, appO_eq (by simp; omega) (by simp; omega), Option.bind_some, rl_L1 V k l _ (by simp; omega)]
      simp [hq]
theorem locals_same (fuel : Nat) (hf : 1048577 ≤ fuel) (r : S_api_Rule) (h : Bd r) : ∃ l, lf_scope_Locals r = some l ∧ lf_constraintref15_Locals fuel r = some l := by
  obtain ⟨ha, hb, hc, hd⟩ := h
  have hA := vA_len (r.f1_Keep ++ r.f2_Remove)
  have hG := vG_len (r.f3_Guard ++ r.f4_Body)
  have wAa : ∀ a b : List At, wA (a ++ b) = wA a + wA b := fun a b => by
    induction a with
    | nil => simp [wA]
    | cons x a ih => simp only [List.cons_append, wA, ih]; omega
  have wGa : ∀ a b : List Gl, wG (a ++ b) = wG a + wG b := fun a b => by
    induction a with
    | nil => simp [wG]
    | cons x a ih => simp only [List.cons_append, wG, ih]; omega
  have hA' := wAa r.f1_Keep r.f2_Remove
  have hG' := wGa r.f3_Guard r.f4_Body
  have tAw := tA_wt (r.f1_Keep ++ r.f2_Remove)
  have tGw := tGs_wt (r.f3_Guard ++ r.f4_Body)
  have l1 := wA_len r.f1_Keep
  have l2 := wA_len r.f2_Remove
  have l3 := wG_len r.f3_Guard
  have l4 := wG_len r.f4_Body
  have hu := uniq_len (occL (tGs (r.f3_Guard ++ r.f4_Body))) []
  have ho := occL_wt (tGs (r.f3_Guard ++ r.f4_Body))
  simp only [List.length_nil, Nat.zero_add] at hu
  refine ⟨(vG (r.f3_Guard ++ r.f4_Body)).foldl (addV (vA (r.f1_Keep ++ r.f2_Remove))) [], ?_, ?_⟩
  · rw [lf_scope_Locals, atomVars_eq _ _ ha hb, Option.bind_some]
    obtain ⟨m', e1, e2, e3⟩ := ll_L0 (fun mm_9 => (lf_scope_goalVars [r.f3_Guard, r.f4_Body]).bind fun r_10 => lf_scope_Locals_L1 (fun out_16 => some out_16) r_10 [] mm_9) (vA (r.f1_Keep ++ r.f2_Remove)) [] (by simp only [List.length_nil]; omega)
    rw [e1, goalVars_eq _ _ hc hd, Option.bind_some]
    simp only [List.length_nil] at e2
    exact ll_L1 _ _ _ _ _ (by omega) (by simp only [List.length_nil]; omega) fun x => by rw [e3 x]; simp [mget]
  · rw [lf_constraintref15_Locals, lf_constraintref15_headVars, lf_constraintref15_heads, lf_constraintref15_goals]
    rw [appO_eq (by simp; omega) (by simp; omega), Option.bind_some, appO_eq (by simp; omega) (by simp; omega), Option.bind_some, Option.bind_some]
    rw [hv_L0 _ _ _ (by simp only [List.nil_append, List.length_nil]; omega), List.nil_append, List.nil_append, varsOf_lf fuel _ (by omega) (by omega), Option.bind_some, Option.bind_some]
    rw [appO_eq (by simp; omega) (by simp; omega), Option.bind_some, appO_eq (by simp; omega) (by simp; omega), Option.bind_some, Option.bind_some]
    rw [lv_L0 _ _ _ (by simp only [List.nil_append, List.length_nil]; omega), List.nil_append, List.nil_append, varsOf_lf fuel _ (by omega) (by omega), Option.bind_some]
    rw [rl_L1 _ _ _ _ (by simp only [List.length_nil]; omega), foldV_vG, List.nil_append]
    have := foldV_filter (vA (r.f1_Keep ++ r.f2_Remove)) (occL (tGs (r.f3_Guard ++ r.f4_Body))) []
    simp only [List.filter_nil] at this
    rw [this]
    congr 1
    refine List.filter_congr fun x _ => ?_
    simp [mem_vA, mem_uniq]
theorem same_L0 (k : Option Bool) (hk : k = some true) (b : List Int) : ∀ (l : List Int) (i : Nat), b.drop i = l → lf_constraintref03_SameInts_L0 k b l i = some true
  | [], i, _ => by rw [lf_constraintref03_SameInts_L0, hk]
  | q :: l, i, h => by
    have h1 : b[i]? = some q := by
      have := congrArg (fun x => x[0]?) h
      simpa using this
    have h2 : i < b.length := (List.getElem?_eq_some_iff.1 h1).1
    rw [lf_constraintref03_SameInts_L0, decide_eq_true (by omega), cond_true, getI_nat, h1, Option.bind_some]
    simp only [bne_self_eq_false, cond_false]
    refine same_L0 k hk b l _ ?_
    have := congrArg List.tail h
    simpa using this
theorem sameInts_self (l : List Int) : lf_constraintref03_SameInts l l = some true := by
  rw [lf_constraintref03_SameInts, bne_self_eq_false, cond_false]
  exact same_L0 _ rfl l l 0 rfl

/-! ### declarations -/
theorem ixd_val (v : S_api_Decl) : ∀ (l : List S_api_Decl) (i : Nat), ∃ r, lf_slices_Index_api_Decl_api_Decl_L0 (some (-1)) v l i = some r ∧ decide (r ≥ (0 : Int)) = decide (v ∈ l)
  | [], i => ⟨-1, by rw [lf_slices_Index_api_Decl_api_Decl_L0], by simp⟩
  | d :: l, i => by
    rw [lf_slices_Index_api_Decl_api_Decl_L0]
    by_cases h : v = d
    · rw [decide_eq_true h, cond_true]
      exact ⟨_, rfl, by subst h; simp⟩
    · rw [decide_eq_false h, cond_false]
      obtain ⟨r, e1, e2⟩ := ixd_val v l (i + 1)
      exact ⟨r, e1, by rw [e2]; simp [h]⟩
theorem Declared_eq (ds : List S_api_Decl) (s : ByteArray) (n : Int) : lf_scope_Declared ds s n = some (decide ((⟨s, n⟩ : S_api_Decl) ∈ ds)) := by
  unfold lf_scope_Declared lf_slices_Contains_api_Decl_api_Decl lf_slices_Index_api_Decl_api_Decl
  obtain ⟨r, e1, e2⟩ := ixd_val ⟨s, n⟩ ds 0
  rw [e1, Option.bind_some, Option.bind_some, e2]
theorem ba_eq (a b : ByteArray) : (a.toList == b.toList) = decide (a = b) := by
  by_cases h : a = b
  · subst h; simp
  · rw [decide_eq_false h]
    simp only [beq_eq_false_iff_ne]
    intro e
    rw [ByteArray.toList_eq, ByteArray.toList_eq] at e
    exact h (ByteArray.ext (Array.toList_inj.1 e))
theorem refDeclared_L0 (s : ByteArray) (n : Int) : ∀ l : List S_api_Decl, lf_constraintref15_Declared_L0 (some false) n s l = some (decide ((⟨s, n⟩ : S_api_Decl) ∈ l))
  | [] => by rw [lf_constraintref15_Declared_L0]; simp
  | d :: l => by
    obtain ⟨a, b⟩ := d
    rw [lf_constraintref15_Declared_L0, refDeclared_L0 s n l, ba_eq]
    by_cases h : a = s
    · subst h
      by_cases h2 : b = n
      · subst h2; simp
      · have h3 : ¬ n = b := fun e => h2 e.symm
        rw [beq_false_of_ne h2]
        simp [h3]
    · have h3 : ¬ s = a := fun e => h e.symm
      simp [h, h3]
theorem refDeclared_eq (ds : List S_api_Decl) (s : ByteArray) (n : Int) : lf_constraintref15_Declared ds s n = some (decide ((⟨s, n⟩ : S_api_Decl) ∈ ds)) := refDeclared_L0 s n ds
theorem sl_L0 (k : Option Bool) (hk : k = some true) (n : Int) (ds : List S_api_Decl) : ∀ l : List At, lf_constraintlaw15_ScopeLocals_L0 k n ds l = some true
  | [] => by rw [lf_constraintlaw15_ScopeLocals_L0, hk]
  | a :: l => by
    rw [lf_constraintlaw15_ScopeLocals_L0, Declared_eq, refDeclared_eq, Declared_eq, refDeclared_eq]
    simp only [Option.bind_some, bne_self_eq_false, cond_false]
    exact sl_L0 k hk n ds l
theorem locals_lf (fuel : Nat) (hf : 1048577 ≤ fuel) (ds : List S_api_Decl) (r : S_api_Rule) (n : Int) (hn : Nm r) : lf_constraintlaw15_ScopeLocals fuel ds r n = some true := by
  rw [lf_constraintlaw15_ScopeLocals]
  obtain ⟨b, e1, e2⟩ := great_lf ⟨ds, [r]⟩ 400 (by omega) (fun x hx => by rw [List.mem_singleton.1 hx]; exact hn)
  rw [e1, Option.bind_some]
  cases b with
  | true => rfl
  | false =>
    have hB := e2 rfl r (List.mem_singleton.2 rfl)
    have l1 := wA_len r.f1_Keep
    have l2 := wA_len r.f2_Remove
    have := hB.a; have := hB.b
    obtain ⟨l, f1, f2⟩ := locals_same fuel hf r hB
    rw [cond_false, appO_eq (by simp; omega) (by simp; omega), Option.bind_some, appO_eq (by simp; omega) (by simp; omega), Option.bind_some]
    refine sl_L0 _ ?_ n ds _
    rw [f1, f2, Option.bind_some, Option.bind_some, sameInts_self, Option.bind_some, cond_true, live15]
    rfl
theorem gives_ScopeLocals (ds : List S_api_Decl) (r : S_api_Rule) (n : Int) : Gives Try.prog 6 [.lst (ds.map enc_S_api_Decl), enc_S_api_Rule r, .int .i64 n] (.bool true) := fun w p vs hi hv => by
  have hv' := hv
  simp only [Repl] at hv'
  obtain ⟨_, _, _, _, v, _, _, h, _⟩ := hv'
  exact lg_constraintlaw15_ScopeLocals 1048577 ds r n true (locals_lf _ (Nat.le_refl _) ds r n (nm_of h)) w p vs hi hv
end Go.Proofs.Ytgndcnknmkcacaa


namespace Go.Proofs.Ytgndcnknmkcacaa
set_option maxRecDepth 100000
open Go.ChangeShapes Go.WideShapes Go.ChangeAt Go.RowKit

/-- Every cell that there is. -/
def live (w : World) (a : Addr) : Prop := ∃ v, w.cell? a = some v
theorem live_grow {w w' : World} (e : Ext w w') : Grow (live w) w (live w') w' := fun _ ⟨v, hv⟩ => ⟨⟨v, e.cellOf hv⟩, by rw [hv]; exact e.cellOf hv⟩
/-- A datum of a type, opened. -/
def Op (t : TypeId) (n : Nat) (S : D → Prop) : Prop := ∀ (H : Type) (enc : TypeId × Value → H) (W : World) (base : Nat) (sp : Nat → Bool) (hd : Bool) (fuel : Nat) (cs : List Value) (x : DataW H × List MemPlace),
  DataW.trod enc Try.prog W base sp hd fuel t cs = some x → ∃ d v, S d ∧ d.plain = true ∧ sz d = n ∧ Rep (live W) W d v ∧ cs = v.cells.toList
theorem Op.to {t : TypeId} {n : Nat} {S S' : D → Prop} (h : Op t n S) (k : ∀ d, S d → S' d) : Op t n S' := fun H enc W base sp hd fuel cs x hx => by
  obtain ⟨d, v, h1, h2⟩ := h H enc W base sp hd fuel cs x hx
  exact ⟨d, v, k d h1, h2⟩
theorem op_i64 {t : TypeId} (ht : (Try.prog).underlying t = some (.int .i64)) : Op t 1 fun d => ∃ n, d = .int .i64 n := fun H enc W base sp hd fuel cs x hx => by
  obtain ⟨k, rfl, _, w0⟩ := DataW.trod_int ht hx
  have := i64_of w0
  refine ⟨.int .i64 k, .int .i64 k, ⟨k, rfl⟩, rfl, rfl, ?_, by simp [Value.cells]⟩
  simp only [Rep]
  exact ⟨trivial, wrap64 (by unfold I64 at this; omega)⟩
theorem op_str {t : TypeId} (ht : (Try.prog).underlying t = some .string) : Op t 1 fun d => ∃ s, d = .str s := fun H enc W base sp hd fuel cs x hx => by
  obtain ⟨s, rfl, _, w0⟩ := DataW.trod_string ht hx
  refine ⟨.str s, .string s, ⟨s, rfl⟩, rfl, rfl, ?_, by simp [Value.cells]⟩
  simp only [Rep]
  exact ⟨trivial, by unfold maxLen at w0; omega⟩
/-- One predicate a field. -/
def Fits : List (D → Prop) → List D → Prop
  | [], [] => True
  | S :: ss, d :: ds => S d ∧ Fits ss ds
  | _, _ => False
/-- Fields, one behind the other, from an offset to the end. -/
def tight (P : Program) : Nat → List Field → Bool
  | _, [] => true
  | o, f :: fs => f.offset == o && tight P (o + P.cellsOf f.type) fs
theorem reps_ones {p : Addr → Prop} {w : World} : ∀ {ds : List D} {cs : List Value}, Reps p w ds cs → (∀ d ∈ ds, d.plain = true) → ∀ u ∈ cs, u.oneCell' = true
  | [], cs, h, _, u, hu => by simp only [Reps] at h; subst h; simp at hu
  | d :: ds, cs, h, hp, u, hu => by
    simp only [Reps] at h
    obtain ⟨v, rest, rfl, h1, h2⟩ := h
    rcases List.mem_append.1 hu with hu | hu
    · exact h1.one (hp d (List.mem_cons_self ..)) u hu
    · exact reps_ones h2 (fun e he => hp e (List.mem_cons_of_mem _ he)) u hu
def total (P : Program) : List Field → Nat
  | [] => 0
  | f :: fs => P.cellsOf f.type + total P fs
def Ops : List Field → List (D → Prop) → Prop
  | [], [] => True
  | f :: fs, S :: ss => Op f.type ((Try.prog).cellsOf f.type) S ∧ Ops fs ss
  | _, _ => False
theorem fields_open {H : Type} {enc : TypeId × Value → H} {W : World} {base : Nat} {sp : Nat → Bool} {hd : Bool} {n : Nat} {cs : List Value} :
    ∀ (fs : List Field) (ss : List (D → Prop)) (o : Nat), Ops fs ss → tight Try.prog o fs = true → o + total Try.prog fs = cs.length →
      (∀ (i : Nat) (f : Field), fs[i]? = some f → ∃ x, DataW.trod enc Try.prog W base sp hd n f.type ((cs.drop f.offset).take ((Try.prog).cellsOf f.type)) = some x) →
      ∃ ds, Fits ss ds ∧ (∀ d ∈ ds, d.plain = true) ∧ szs ds = total Try.prog fs ∧ Reps (live W) W ds (cs.drop o)
  | [], [], o, _, _, hl, _ => ⟨[], trivial, by simp, rfl, by simp only [total] at hl; rw [List.drop_eq_nil_of_le (by omega)]; exact Reps.nil _ _⟩
  | f :: fs, S :: ss, o, hop, ht, hl, hx => by
    simp only [tight, Bool.and_eq_true, beq_iff_eq] at ht
    simp only [total] at hl
    obtain ⟨ds, h1, h2, h3, h4⟩ := fields_open fs ss (o + (Try.prog).cellsOf f.type) hop.2 ht.2 (by omega) fun i g hg => hx (i + 1) g hg
    obtain ⟨x, h5⟩ := hx 0 f rfl
    rw [ht.1] at h5
    obtain ⟨d, v, g1, g2, g3, g4, g5⟩ := hop.1 H enc W base sp hd n _ x h5
    refine ⟨d :: ds, ⟨g1, h1⟩, ?_, by simp only [szs, total, g3, h3], ?_⟩
    · intro e he
      rcases List.mem_cons.1 he with rfl | he
      · exact g2
      · exact h2 e he
    · have := Reps.cons g4 h4
      rw [← g5, ← List.drop_drop, List.take_append_drop] at this
      exact this
  | [], _ :: _, _, h, _, _, _ => h.elim
  | _ :: _, [], _, h, _, _, _ => h.elim
theorem op_struct {t : TypeId} {fs : Array Field} {n : Nat} (ht : (Try.prog).underlying t = some (.struct fs)) (ss : List (D → Prop)) (hs : Ops fs.toList ss) (h1 : tight Try.prog 0 fs.toList = true) (h2 : total Try.prog fs.toList = n) (h3 : (Try.prog).cellsOf t = n) :
    Op t n fun d => ∃ ds, d = .agg ds ∧ Fits ss ds := fun H enc W base sp hd fuel cs x hx => by
  obtain ⟨xs, m, _, _, hl, hlen, hf⟩ := DataW.trod_struct ht hx
  obtain ⟨ds, g1, g2, g3, g4⟩ := fields_open (enc := enc) (W := W) (base := base) (sp := sp) (hd := hd) (n := m) (cs := cs) fs.toList ss 0 hs h1 (by omega) fun i f hi => by
    have hi' : fs[i]? = some f := by simpa using hi
    have hlt : i < xs.length := by
      have := (Array.getElem?_eq_some_iff.1 hi').1
      omega
    exact ⟨xs[i], by rw [hf i f hi', List.getElem?_eq_getElem hlt]⟩
  refine ⟨.agg ds, .agg cs.toArray, ⟨ds, rfl, g1⟩, rfl, by simp only [sz]; omega, ?_, by simp [Value.cells]⟩
  simp only [Rep]
  rw [List.drop_zero] at g4
  exact ⟨cs, rfl, g4, reps_ones g4 g2⟩
/-- Data of one size as a layout. -/
def layD (n : Nat) (hn : 0 < n) (S : D → Prop) : Lay D where
  C := fun w d cs => S d ∧ d.plain = true ∧ sz d = n ∧ ∃ v, Rep (live w) w d v ∧ cs = v.cells.toList
  n := n
  pos := hn
  ext := fun ⟨h1, h2, h3, v, h4, h5⟩ e => ⟨h1, h2, h3, v, h4.grow (live_grow e), h5⟩
  len := fun ⟨_, _, h3, v, h4, h5⟩ => by rw [h5, ← h3, ← h4.sz]; simp
  one := fun ⟨_, h2, _, v, h4, h5⟩ u hu => by subst h5; exact h4.one h2 u hu
theorem layD_ls {n : Nat} {hn : 0 < n} {S : D → Prop} {w : World} : ∀ {l : List D} {xs : List Value}, (layD n hn S).Ls w l xs → (∀ d ∈ l, S d ∧ d.plain = true) ∧ Reps (live w) w l xs
  | [], xs, h => by
    have h : xs = [] := h
    subst h
    exact ⟨by simp, Reps.nil _ _⟩
  | d :: l, xs, ⟨cs, ys, h1, ⟨g1, g2, _, v, g4, g5⟩, h3⟩ => by
    obtain ⟨k1, k2⟩ := layD_ls h3
    subst h1 g5
    refine ⟨?_, Reps.cons g4 k2⟩
    intro e he
    rcases List.mem_cons.1 he with rfl | he
    · exact ⟨g1, g2⟩
    · exact k1 e he
theorem rd_live {w : World} {A : Option Addr} {xs : List Value} (h : Rd w A xs) : RdP (live w) w A xs := by
  rcases h with h | ⟨ad, rfl, hc⟩
  · exact .inl h
  · by_cases he : xs = []
    · exact .inl he
    · have hlen : 0 < xs.length := List.length_pos_iff.2 he
      have hsp : ad.spot = none := by
        have := cell_spot (hc 0 _ (List.getElem?_eq_getElem hlen))
        simpa [Addr.add] using this
      obtain ⟨b, o, sp⟩ := ad
      simp only at hsp
      subst hsp
      refine .inr ⟨b, o, rfl, fun j u hu => ?_⟩
      have h1 : w.cell? ⟨b, o + j, none⟩ = some u := by have := hc j u hu; rwa [add_flat] at this
      exact ⟨⟨u, h1⟩, h1⟩
theorem op_slice {t e : TypeId} {n : Nat} {S : D → Prop} (ht : (Try.prog).underlying t = some (.slice e)) (hn : (Try.prog).cellsOf e = n) (hp : 0 < n) (he : Op e n S) : Op t 1 fun d => ∃ l, d = .lst l ∧ ∀ x ∈ l, S x := fun H enc W base sp hd fuel cs x hx => by
  obtain ⟨l, v, rfl, h1⟩ := Lay.open_sl (L := layD n hp S) ht hn (fun m cs x _ h => by
    obtain ⟨d, v, g1, g2, g3, g4, g5⟩ := he H enc W base sp hd m cs x h
    exact ⟨d, g1, g2, g3, v, g4, g5⟩) hx
  obtain ⟨A, c, xs, rfl, h2, h3, h4, h5⟩ := h1
  obtain ⟨h6, h7⟩ := layD_ls h5
  refine ⟨.lst l, .slice A l.length c, ⟨l, rfl, fun d hd => (h6 d hd).1⟩, rfl, rfl, ?_, by simp [Value.cells]⟩
  simp only [Rep]
  exact ⟨A, c, xs, rfl, h2, h3, rd_live h4, h7, reps_ones h7 fun d hd => (h6 d hd).2⟩
/-- A list of data that all show something is the list of what they show. -/
theorem list_img {α : Type} {f : α → D} : ∀ {l : List D}, (∀ x ∈ l, ∃ a, x = f a) → ∃ av : List α, l = av.map f
  | [], _ => ⟨[], rfl⟩
  | d :: l, h => by
    obtain ⟨a, rfl⟩ := h d (List.mem_cons_self ..)
    obtain ⟨av, rfl⟩ := list_img fun x hx => h x (List.mem_cons_of_mem _ hx)
    exact ⟨a :: av, rfl⟩
theorem op_list {α : Type} {f : α → D} {t e : TypeId} {n : Nat} (ht : (Try.prog).underlying t = some (.slice e)) (hn : (Try.prog).cellsOf e = n) (hp : 0 < n) (he : Op e n fun d => ∃ a, d = f a) : Op t 1 fun d => ∃ av : List α, d = .lst (av.map f) :=
  (op_slice ht hn hp he).to fun d ⟨l, hl, h⟩ => by
    obtain ⟨av, rfl⟩ := list_img h
    exact ⟨av, hl⟩

/-! ### terms -/
mutual
theorem rep_ct {w : World} : ∀ {t : T} {cs : List Value}, CT w t cs → Reps (live w) w (fsT t) cs
  | .mk k i s ar, cs, h => by
    simp only [CT] at h
    obtain ⟨A, c, xs, rfl, ⟨h1, h2, h3, h4, h5⟩, h6, h7⟩ := h
    have g := rep_cl h7
    simp only [fsT, Reps, Rep]
    refine ⟨.int .i64 k, _, by simp [Value.cells]; rfl, ⟨rfl, wrap64 (by unfold I64 at h1; omega)⟩, .int .i64 i, _, by simp [Value.cells]; rfl, ⟨rfl, wrap64 (by unfold I64 at h2; omega)⟩, .string s, _, by simp [Value.cells]; rfl, ⟨rfl, h3⟩, .slice A ar.length c, _, by simp [Value.cells], ⟨A, c, xs, ?_, ?_, h5, rd_live h6, g, reps_ones g ?_⟩, rfl⟩
    · rw [encTs_eq]; simp
    · rw [encTs_eq]; simpa using h4
    · rw [encTs_eq]
      intro d hd
      obtain ⟨t, _, rfl⟩ := List.mem_map.1 hd
      rfl
theorem rep_cl {w : World} : ∀ {ts : List T} {xs : List Value}, CL w ts xs → Reps (live w) w (encTs ts) xs
  | [], xs, h => by
    simp only [CL] at h
    subst h
    simp only [encTs, Reps]
  | t :: ts, xs, h => by
    simp only [CL] at h
    obtain ⟨cs, ys, rfl, h1, h2⟩ := h
    have g := rep_ct h1
    simp only [encTs, Reps]
    refine ⟨.agg cs.toArray, ys, by simp [Value.cells], ?_, rep_cl h2⟩
    simp only [Rep]
    exact ⟨cs, rfl, g, reps_ones g fun d hd => by
      rw [fsT_eq] at hd
      simp only [List.mem_cons, List.not_mem_nil, or_false] at hd
      rcases hd with rfl | rfl | rfl | rfl <;> rfl⟩
end
theorem op_term : Op 88 4 fun d => ∃ t, d = encT t := fun H enc W base sp hd fuel cs x hx => by
  obtain ⟨t, ht⟩ := open_termF fuel cs x hx
  have g := rep_ct ht
  refine ⟨encT t, .agg cs.toArray, ⟨t, rfl⟩, rfl, sz_encT t, ?_, by simp [Value.cells]⟩
  simp only [Rep]
  exact ⟨cs, rfl, g, reps_ones g fun d hd => by
    rw [fsT_eq] at hd
    simp only [List.mem_cons, List.not_mem_nil, or_false] at hd
    rcases hd with rfl | rfl | rfl | rfl <;> rfl⟩
theorem op_terms : Op 42 1 fun d => ∃ l : List T, d = .lst (l.map encT) := op_list Try.underlying42 cells_term (by omega) op_term
theorem op_goal : Op 60 3 fun d => ∃ g, d = encG g :=
  (op_struct Try.underlying60 [fun d => ∃ n, d = .int .i64 n, fun d => ∃ s, d = .str s, fun d => ∃ l : List T, d = .lst (l.map encT)] ⟨op_i64 Try.underlying3, op_str Try.underlying9, op_terms, trivial⟩ (by kernel_rfl) (by kernel_rfl) cells_goal).to fun d ⟨ds, hd, h⟩ => by
    match ds, h with
    | [_, _, _], ⟨⟨n, rfl⟩, ⟨s, rfl⟩, ⟨l, rfl⟩, _⟩ => exact ⟨⟨n, s, l⟩, hd⟩
/-! ### a law's arguments -/
/-- The value has the shape of its data. -/
def Cl (t : TypeId) (S : D → Prop) : Prop := ∀ (W : World) (b : Nat) (v : Value), Value.okWide Try.prog W .any b t v → ∀ d, S d → v = reval d v.cells.toList
theorem Cl.to {t : TypeId} {S S' : D → Prop} (h : Cl t S') (k : ∀ d, S d → S' d) : Cl t S := fun W b v hv d hd => h W b v hv d (k d hd)
theorem cl_struct {t : TypeId} {fs : Array Field} (ht : (Try.prog).underlying t = some (.struct fs)) : Cl t fun d => ∃ ds, d = .agg ds := fun W b v hv d ⟨ds, hd⟩ => by
  obtain ⟨cs, rfl, _⟩ := okWide_struct ht hv
  subst hd
  simp [Value.cells, reval]
theorem cl_slice {t e : TypeId} (ht : (Try.prog).underlying t = some (.slice e)) : Cl t fun d => ∃ l, d = .lst l := fun W b v hv d ⟨l, hd⟩ => by
  obtain ⟨a, n, c, rfl⟩ := okWide_slice ht hv
  subst hd
  simp [Value.cells, reval]
theorem cl_i64 {t : TypeId} (ht : (Try.prog).underlying t = some (.int .i64)) : Cl t fun d => ∃ n, d = .int .i64 n := fun W b v hv d ⟨n, hd⟩ => by
  obtain ⟨m, rfl⟩ := okWide_int ht hv
  subst hd
  simp [Value.cells, reval]
structure Arg where
  t : TypeId
  n : Nat
  S : D → Prop
  op : Op t n S
  cl : Cl t S
def aInt : Arg := ⟨_, _, _, op_i64 Try.underlying3, cl_i64 Try.underlying3⟩
theorem args_open {H : Type} {enc : TypeId × Value → H} {W : World} {base b : Nat} {sp : Nat → Bool} {hd : Bool} : ∀ (av : List Arg) (vs : List Value) (ds : List (DataW H)) (ps : List MemPlace),
    DataW.TrodAll enc Try.prog W base sp hd (av.map Arg.t) vs ds ps → (∀ (j : Nat) t v, (av.map Arg.t)[j]? = some t → vs[j]? = some v → Value.okWide Try.prog W .any b t v) → ∃ es, Fits (av.map Arg.S) es ∧ Repl (live W) W es vs
  | [], vs, ds, ps, h, _ => by
    obtain ⟨rfl, _, _⟩ := trodAll_nil h
    exact ⟨[], trivial, Repl.nil _ _⟩
  | a :: av, vs, ds, ps, h, hv => by
    obtain ⟨v, vs', d, ds', p, q, rfl, rfl, rfl, ⟨fuel, h1⟩, h2⟩ := trodAll_cons h
    obtain ⟨es, g1, g2⟩ := args_open av vs' ds' q h2 fun j t u ht hu => hv (j + 1) t u ht hu
    obtain ⟨e, u, k1, k2, k3, k4, k5⟩ := a.op H enc W base sp hd fuel _ _ h1
    have e1 := a.cl W b v (hv 0 a.t v rfl rfl) e k1
    have e2 := k4.back
    rw [← k5] at e2
    rw [← e2] at e1
    subst e1
    exact ⟨e :: es, ⟨k1, g1⟩, Repl.cons k4 g2⟩
theorem holds_of {k : FuncId} {F : Func} (av : List Arg) (hp : F.params.toList = av.map Arg.t) (hg : ∀ es, Fits (av.map Arg.S) es → Gives Try.prog k es (.bool true)) : Holds k F := by
  intro H enc W base args ds p hval hA
  rw [hp] at hA
  obtain ⟨es, h1, h2⟩ := args_open (b := base) av args.toList ds p hA fun j t v ht hv => hval j t v (by rw [← Array.getElem?_toList, hp]; exact ht) (by simpa using hv)
  have hI : Inv (ctx W (live W) []) (live W) [] W := ⟨by simp, by simp [blks], by simp [blks], fun a ha => ha, Grow.refl _ _, fun a ha => .inl ha, rfl, rfl, rfl, Nat.le_refl _, fun b _ _ => rfl⟩
  refine (hg es h1 W (live W) args.toList hI h2).mono ?_
  rintro e w' (⟨v, d, σ, q, rfl, rfl, hr, hi⟩ | ⟨_, _, _, _, _, hx, _⟩)
  rotate_left
  · exact hx.elim
  simp only [Rep] at hr
  subst hr
  exact Ret.mk rfl ⟨hi.os, hi.tape, hi.output, hi.size, fun b hb => hi.block b hb (by simp [ctx, blks])⟩
end Go.Proofs.Ytgndcnknmkcacaa


namespace Go.Proofs.Ytgndcnknmkcacaa
set_option maxRecDepth 100000
open Go.ChangeShapes Go.WideShapes Go.ChangeAt Go.RowKit

theorem op_atom : Op 44 2 fun d => ∃ a, d = encA a :=
  (op_struct Try.underlying44 [fun d => ∃ s, d = .str s, fun d => ∃ l : List T, d = .lst (l.map encT)] ⟨op_str Try.underlying9, op_terms, trivial⟩ (by kernel_rfl) (by kernel_rfl) (by kernel_rfl)).to fun d ⟨ds, hd, h⟩ => by
    match ds, h with
    | [_, _], ⟨⟨s, rfl⟩, ⟨l, rfl⟩, _⟩ => exact ⟨⟨s, l⟩, hd⟩
theorem op_atoms : Op 32 1 fun d => ∃ l : List At, d = .lst (l.map encA) := op_list Try.underlying32 (by kernel_rfl) (by omega) op_atom
theorem op_goals : Op 33 1 fun d => ∃ l : List Gl, d = .lst (l.map encG) := op_list Try.underlying33 cells_goal (by omega) op_goal
theorem op_rule : Op 35 6 fun d => ∃ r, d = enc_S_api_Rule r :=
  (op_struct Try.underlying35 [fun d => ∃ s, d = .str s, fun d => ∃ l : List At, d = .lst (l.map encA), fun d => ∃ l : List At, d = .lst (l.map encA), fun d => ∃ l : List Gl, d = .lst (l.map encG), fun d => ∃ l : List Gl, d = .lst (l.map encG), fun d => ∃ n, d = .int .i64 n] ⟨op_str Try.underlying9, op_atoms, op_atoms, op_goals, op_goals, op_i64 Try.underlying3, trivial⟩ (by kernel_rfl) (by kernel_rfl) (by kernel_rfl)).to fun d ⟨ds, hd, h⟩ => by
    match ds, h with
    | [_, _, _, _, _, _], ⟨⟨s, rfl⟩, ⟨a, rfl⟩, ⟨b, rfl⟩, ⟨c, rfl⟩, ⟨e, rfl⟩, ⟨n, rfl⟩, _⟩ => exact ⟨⟨s, a, b, c, e, n⟩, hd⟩
theorem op_rules : Op 23 1 fun d => ∃ l : List S_api_Rule, d = .lst (l.map enc_S_api_Rule) := op_list Try.underlying23 (by kernel_rfl) (by omega) op_rule
theorem op_decl : Op 50 2 fun d => ∃ q, d = enc_S_api_Decl q :=
  (op_struct Try.underlying50 [fun d => ∃ s, d = .str s, fun d => ∃ n, d = .int .i64 n] ⟨op_str Try.underlying9, op_i64 Try.underlying3, trivial⟩ (by kernel_rfl) (by kernel_rfl) (by kernel_rfl)).to fun d ⟨ds, hd, h⟩ => by
    match ds, h with
    | [_, _], ⟨⟨s, rfl⟩, ⟨n, rfl⟩, _⟩ => exact ⟨⟨s, n⟩, hd⟩
theorem op_decls : Op 22 1 fun d => ∃ l : List S_api_Decl, d = .lst (l.map enc_S_api_Decl) := op_list Try.underlying22 (by kernel_rfl) (by omega) op_decl
theorem op_program : Op 25 2 fun d => ∃ q, d = enc_S_api_Program q :=
  (op_struct Try.underlying25 [fun d => ∃ l : List S_api_Decl, d = .lst (l.map enc_S_api_Decl), fun d => ∃ l : List S_api_Rule, d = .lst (l.map enc_S_api_Rule)] ⟨op_decls, op_rules, trivial⟩ (by kernel_rfl) (by kernel_rfl) (by kernel_rfl)).to fun d ⟨ds, hd, h⟩ => by
    match ds, h with
    | [_, _], ⟨⟨s, rfl⟩, ⟨n, rfl⟩, _⟩ => exact ⟨⟨s, n⟩, hd⟩
def aGoals : Arg := ⟨_, _, _, op_goals, (cl_slice Try.underlying33).to fun _ ⟨_, h⟩ => ⟨_, h⟩⟩
def aAtoms : Arg := ⟨_, _, _, op_atoms, (cl_slice Try.underlying32).to fun _ ⟨_, h⟩ => ⟨_, h⟩⟩
def aDecls : Arg := ⟨_, _, _, op_decls, (cl_slice Try.underlying22).to fun _ ⟨_, h⟩ => ⟨_, h⟩⟩
def aRule : Arg := ⟨_, _, _, op_rule, (cl_struct Try.underlying35).to fun _ ⟨_, h⟩ => ⟨_, h⟩⟩
def aProgram : Arg := ⟨_, _, _, op_program, (cl_struct Try.underlying25).to fun _ ⟨_, h⟩ => ⟨_, h⟩⟩
end Go.Proofs.Ytgndcnknmkcacaa

