/-
  Layer 15, ScopeQueries: the law's function returns true. Plain lemmas; no condition.
-/
import Derived.Test.YtgndcnknmkcacaaLGA
import Derived.Test.YtgndcnknmkcacaaLGB
import Derived.Test.YtgndcnknmkcacaaLGC
import Derived.Test.YtgndcnknmkcacaaLGD
import Derived.Test.YtgndcnknmkcacaaLGE
import Derived.Test.YtgndcnknmkcacaaLGF
import Derived.Test.YtgndcnknmkcacaaLGG
namespace Go.Proofs.Ytgndcnknmkcacaa
set_option maxRecDepth 100000
open Go.RowKit

/-- The check raises what the reference returns. -/
def Rs (x : Option (Int ⊕ Unit)) (y : Option Int) : Prop := ∃ s, x = some s ∧ y = some (caughtV s) ∧ ∀ c, s = .inl c → c ≠ 0
theorem Rs.ok : Rs (some (.inr ())) (some 0) := ⟨_, rfl, rfl, fun c h => by cases h⟩
theorem Rs.err {e : Int} (he : e ≠ 0) : Rs (some (.inl e)) (some e) := ⟨_, rfl, rfl, fun c h => by cases h; exact he⟩
theorem Rs.need {ok bad : Bool} {e : Int} {f : Unit → Option (Int ⊕ Unit)} {k : Option Int} (he : e ≠ 0) (hb : bad = !ok) (h : ok = true → Rs (f ()) k) : Rs (bindX (lf_scope_need ok e) f) (bif bad then some e else k) := by
  subst hb
  cases ok with
  | true => exact h rfl
  | false => exact Rs.err he
theorem Rs.bind {x : Option (Int ⊕ Unit)} {y : Option Int} {f : Unit → Option (Int ⊕ Unit)} {k : Option Int} (h : Rs x y) (hk : Rs (f ()) k) : Rs (bindX x f) (y.bind fun r => bif r != 0 then some r else k) := by
  obtain ⟨s, rfl, rfl, hs⟩ := h
  cases s with
  | inr u => exact hk
  | inl c =>
    have hc := hs c rfl
    rw [Option.bind_some]
    simp only [caughtV]
    rw [show (c != 0) = true by simpa using hc]
    exact Rs.err hc
theorem ixf_val (s : ByteArray) : ∀ (l : List S_api_Decl) (i : Nat), ∃ r, lf_slices_IndexFunc_s4_L0 (some (-1)) s l i = some r ∧ decide (r ≥ (0 : Int)) = l.any fun d => d.f0_Name.toList == s.toList
  | [], i => ⟨-1, by rw [lf_slices_IndexFunc_s4_L0], by simp⟩
  | d :: l, i => by
    rw [lf_slices_IndexFunc_s4_L0, lf_scope_declared_1, Option.bind_some, List.any_cons]
    cases h : d.f0_Name.toList == s.toList with
    | true => exact ⟨_, rfl, by simp⟩
    | false =>
      obtain ⟨r, e1, e2⟩ := ixf_val s l (i + 1)
      exact ⟨r, e1, by rw [e2]; rfl⟩
theorem declare_val (k : Int → Option Int) (s : ByteArray) : ∀ (l : List S_api_Decl) (e : Int), lf_constraintref15_declare_L0 k s l e = k (bif l.any (fun d => d.f0_Name.toList == s.toList) then 9 else e)
  | [], e => by rw [lf_constraintref15_declare_L0]; rfl
  | d :: l, e => by
    rw [lf_constraintref15_declare_L0, List.any_cons]
    cases h : d.f0_Name.toList == s.toList with
    | true =>
      rw [cond_true, declare_val k s l 9]
      cases l.any (fun d => d.f0_Name.toList == s.toList) <;> rfl
    | false => rw [cond_false, declare_val k s l e]; rfl
theorem declared_same (ds : List S_api_Decl) (s : ByteArray) (n : Int) : Rs (lf_scope_declared ds s n) (lf_constraintref15_declare ds s n) := by
  rw [lf_scope_declared, lf_slices_ContainsFunc_s3, lf_slices_IndexFunc_s4, lf_constraintref15_declare, declare_val, Declared_eq, refDeclared_eq]
  obtain ⟨r, e1, e2⟩ := ixf_val s ds 0
  rw [e1, Option.bind_some, Option.bind_some, e2, Option.bind_some, Option.bind_some]
  cases h : ds.any (fun d => d.f0_Name.toList == s.toList) with
  | false =>
    have h2 : ¬ (⟨s, n⟩ : S_api_Decl) ∈ ds := fun hm => by
      have := List.any_eq_false.1 h _ hm
      simp at this
    rw [decide_eq_false h2]
    exact Rs.err (by decide)
  | true =>
    by_cases h2 : (⟨s, n⟩ : S_api_Decl) ∈ ds
    · rw [decide_eq_true h2]; exact Rs.ok
    · rw [decide_eq_false h2]; exact Rs.err (by decide)
theorem calls_same {k : Option (Int ⊕ Unit)} {k' : Option Int} (hk : Rs k k') (ds : List S_api_Decl) : ∀ l : List Gl, Rs (lf_scope_calls_L0 k ds l) (lf_constraintref15_calls_L0 k' ds l)
  | [] => by rw [lf_scope_calls_L0, lf_constraintref15_calls_L0]; exact hk
  | g :: l => by
    rw [lf_scope_calls_L0, lf_constraintref15_calls_L0]
    by_cases h : g.op = 0
    · rw [show (g.op == (0 : Int)) = true by simpa using h, show (g.op != (0 : Int)) = false by simpa using h]
      exact Rs.bind (declared_same _ _ _) (calls_same hk ds l)
    · rw [show (g.op == (0 : Int)) = false by simpa using h, show (g.op != (0 : Int)) = true by simpa using h]
      exact calls_same hk ds l
theorem test_val (n : Int) : ∃ b, lf_scope_test n = some b ∧ lf_constraintref15_Test n = some b := by
  unfold lf_scope_test lf_constraintref15_Test
  cases decide (n ≥ (5 : Int)) <;> exact ⟨_, rfl, rfl⟩
theorem cq_L0 {k : Option (Int ⊕ Unit)} {k' : Option Int} (hk : Rs k k') : ∀ l : List Gl, wG l ≤ 1000 → Rs (lf_scope_CheckQuery_1_L0 k l) (lf_constraintref15_CheckQuery_L0 k' l)
  | [], _ => by rw [lf_scope_CheckQuery_1_L0, lf_constraintref15_CheckQuery_L0]; exact hk
  | g :: l, h => by
    simp only [wG] at h
    rw [lf_scope_CheckQuery_1_L0, lf_constraintref15_CheckQuery_L0, x_rightG_eq _ (by omega), Option.bind_some, Option.bind_some]
    exact Rs.need (by decide) rfl fun _ => cq_L0 hk l (by omega)
theorem cq_L1 {k : Option (Int ⊕ Unit)} {k' : Option Int} (hk : Rs k k') : ∀ l : List Gl, Rs (lf_scope_CheckQuery_1_L1 k l) (lf_constraintref15_CheckQuery_L1 k' l)
  | [] => by rw [lf_scope_CheckQuery_1_L1, lf_constraintref15_CheckQuery_L1]; exact hk
  | g :: l => by
    obtain ⟨b, e1, e2⟩ := test_val g.op
    rw [lf_scope_CheckQuery_1_L1, lf_constraintref15_CheckQuery_L1, e1, e2, Option.bind_some, Option.bind_some]
    exact Rs.need (by decide) (by simp) fun _ => cq_L1 hk l
theorem cq_L2 {k : Option (Int ⊕ Unit)} {k' : Option Int} (hk : Rs k k') (n : Int) : ∀ l : List Int, Rs (lf_scope_CheckQuery_1_L2 k n l) (lf_constraintref15_CheckQuery_L3 k' n l)
  | [] => by rw [lf_scope_CheckQuery_1_L2, lf_constraintref15_CheckQuery_L3]; exact hk
  | x :: l => by
    rw [lf_scope_CheckQuery_1_L2, lf_constraintref15_CheckQuery_L3]
    refine Rs.need (by decide) ?_ fun _ => cq_L2 hk n l
    by_cases h : x < n
    · rw [decide_eq_true h, decide_eq_false (by omega)]; rfl
    · rw [decide_eq_false h, decide_eq_true (by omega)]; rfl
theorem cq_app (k : Option (Int ⊕ Unit)) (n : Int) : ∀ a b : List Int, lf_scope_CheckQuery_1_L2 k n (a ++ b) = lf_scope_CheckQuery_1_L2 (lf_scope_CheckQuery_1_L2 k n b) n a
  | [], b => by rw [List.nil_append, lf_scope_CheckQuery_1_L2.eq_1 (lf_scope_CheckQuery_1_L2 k n b)]
  | x :: a, b => by
    rw [List.cons_append, lf_scope_CheckQuery_1_L2, lf_scope_CheckQuery_1_L2, cq_app k n a b]
theorem cq_vars {k : Option (Int ⊕ Unit)} {k' : Option Int} (hk : Rs k k') (fuel : Nat) (hf : 1048577 ≤ fuel) (n : Int) : ∀ l : List Gl, wG l ≤ 1000 → Rs (lf_scope_CheckQuery_1_L2 k n (vG l)) (lf_constraintref15_CheckQuery_L2 k' fuel n l)
  | [], _ => by rw [lf_constraintref15_CheckQuery_L2, vG, lf_scope_CheckQuery_1_L2]; exact hk
  | g :: l, h => by
    simp only [wG] at h
    rw [lf_constraintref15_CheckQuery_L2, vG, cq_app, lf_constraintref03_GoalVars, varsOf_lf fuel _ (by omega) (by omega), Option.bind_some, Option.bind_some]
    exact cq_L2 (cq_vars hk fuel hf n l (by omega)) n _
theorem goalVars_one (a : List Gl) (ha : wG a ≤ 1000) : lf_scope_goalVars [a] = some (vG a) := by
  rw [lf_scope_goalVars, lf_scope_goalVars_L0, gv_eq _ _ _ (by simp; omega), lf_scope_goalVars_L0]
  rfl
theorem query_same (fuel : Nat) (hf : 1048577 ≤ fuel) (ds : List S_api_Decl) (l : List Gl) (n : Int) (hl : wG l ≤ 1000) : Rs (lf_scope_CheckQuery_1 l n ds) (lf_constraintref15_CheckQuery fuel ds l n) := by
  rw [lf_scope_CheckQuery_1, lf_constraintref15_CheckQuery, goalVars_one l hl, Option.bind_some, lf_scope_CheckQuery_1_J0]
  by_cases h1 : (l.length : Int) ≤ 40
  · rw [decide_eq_true h1, decide_eq_false (p := (l.length : Int) > 40) (by omega), cond_true, cond_false]
    by_cases h2 : n ≥ 0
    · rw [decide_eq_true h2, decide_eq_false (p := n < 0) (by omega), cond_true, cond_false]
      refine Rs.need (by decide) ?_ fun _ => ?_
      · by_cases h : n ≤ 100
        · rw [decide_eq_true h, decide_eq_false (by omega)]; rfl
        · rw [decide_eq_false h, decide_eq_true (by omega)]; rfl
      · exact cq_L0 (Rs.bind (calls_same Rs.ok ds l) (cq_L1 (cq_vars Rs.ok fuel hf n l hl) l)) l hl
    · rw [decide_eq_false h2, decide_eq_true (p := n < 0) (by omega), cond_true, cond_false]
      exact Rs.err (by decide)
  · rw [decide_eq_false h1, decide_eq_true (p := (l.length : Int) > 40) (by omega), cond_true, cond_false]
    exact Rs.err (by decide)
theorem queries_lf (fuel : Nat) (hf : 1048577 ≤ fuel) (ds : List S_api_Decl) (l : List Gl) (n : Int) (hn : NmG l) : lf_constraintlaw15_ScopeQueries fuel ds l n = some true := by
  rw [lf_constraintlaw15_ScopeQueries]
  obtain ⟨b, e1, e2⟩ := great_lf ⟨ds, []⟩ 400 (by omega) (fun x hx => by cases hx)
  rw [e1, Option.bind_some]
  cases b with
  | true => rfl
  | false =>
    obtain ⟨b, f1, f2⟩ := greatG_lf l 600 (by omega) hn
    rw [cond_false, f1, Option.bind_some]
    cases b with
    | true => rfl
    | false =>
      have := f2 rfl
      obtain ⟨s, g1, g2, _⟩ := query_same fuel hf ds l n (by omega)
      rw [cond_false, lf_scope_CheckQuery, g1, g2]
      simp only [Option.bind_some, beq_self_eq_true, cond_true, live15]
theorem gives_ScopeQueries (ds : List S_api_Decl) (l : List Gl) (n : Int) : Gives Try.prog 5 [.lst (ds.map enc_S_api_Decl), .lst (l.map encG), .int .i64 n] (.bool true) := fun w p vs hi hv => by
  have hv' := hv
  simp only [Repl] at hv'
  obtain ⟨_, _, _, _, v, _, _, h, _⟩ := hv'
  exact lg_constraintlaw15_ScopeQueries 1048577 ds l n true (queries_lf _ (Nat.le_refl _) ds l n (nmG_of h)) w p vs hi hv
end Go.Proofs.Ytgndcnknmkcacaa
namespace Go.Proofs.Ytgndcnknmkcacaa.scopeQueries
set_option maxRecDepth 100000
open Go.ChangeShapes Go.WideShapes Go.ChangeAt Go.RowKit
set_option linter.unusedVariables false

theorem holds : Holds 5 Try.f5 :=
  holds_of [aDecls, aGoals, aInt] (by rw [Try.params5]; rfl) fun es h => by
    match es, h with
    | [_, _, _], ⟨⟨ds, rfl⟩, ⟨l, rfl⟩, ⟨vars, rfl⟩, _⟩ => exact gives_ScopeQueries _ _ _

set_option maxRecDepth 100000 in
theorem lifted (os : Os) (started : os.Started) (H : Type) (enc : TypeId × Value → H) :
    ReturnsInHanded {} Try.checked os 5 .any (Rows.scopeQueriesSpec.pre6 enc Try.prog Try.f5 Rows.scopeQueriesRow.domain false) (Rows.scopeQueriesSpec.post enc Try.prog Try.f5 false true false false) := by
  refine returnsInHanded_of_change (C := Try.checked) own started (by kernel_rfl) Try.func5
    (ChangeSpec.witness6 (enc := enc) (C := Try.checked) false ⟨#[], #[.slice none 0 0, .slice none 0 0, .int .i64 0], []⟩ 8 (by kernel_rfl) (by kernel_rfl) (by kernel_rfl) (by kernel_rfl)) ?_
  intro W base args ds gs before hval hW _ _
  exact law_contract holds rfl (by kernel_rfl) rfl rfl (fun H ds h => by
    match ds, h with
    | [_, _, _], _ => rfl) W base args ds gs before hval hW

theorem over : Rows.scopeQueriesRow.holds Try.pinned (OpenSpec.ofChange Rows.scopeQueriesSpec) :=
  OpenClaim.holds_of_wide 5 Try.f5 rfl rfl rfl rfl rfl rfl rfl ⟨rfl, rfl, rfl, rfl, rfl⟩ rfl rfl rfl rfl rfl (by kernel_rfl) Try.func5 (by kernel_rfl)
    (of_decide_eq_true (by kernel_rfl)) (by unfold Func.isWrapper; first | (rw [if_pos (by decide +kernel)]; kernel_rfl) | (rw [if_neg (by decide +kernel)]; exact ⟨rfl, rfl⟩))
    (fun os started H enc _ => lifted os started H enc)

theorem proved : Rows.ScopeQueriesSaid :=
  over
#print axioms proved
end Go.Proofs.Ytgndcnknmkcacaa.scopeQueries
