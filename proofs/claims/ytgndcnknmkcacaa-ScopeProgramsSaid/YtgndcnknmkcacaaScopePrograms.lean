/-
  Layer 15, ScopeQueries: the law's function returns true. Plain lemmas; no condition.
-/
import Derived.Test.YtgndcnknmkcacaaLGA
import Derived.Test.YtgndcnknmkcacaaLGB
import Derived.Test.YtgndcnknmkcacaaLGC
import Derived.Test.YtgndcnknmkcacaaLGD
import Derived.Test.YtgndcnknmkcacaaLGE
import Derived.Test.YtgndcnknmkcacaaLGF
import Derived.Test.YtgndcnknmkcacaaLGG
namespace Go.Proofs.Ytgndcnknmkcacaa
set_option maxRecDepth 100000
open Go.RowKit

/-- The check raises what the reference returns. -/
def Rs (x : Option (Int ⊕ Unit)) (y : Option Int) : Prop := ∃ s, x = some s ∧ y = some (caughtV s) ∧ ∀ c, s = .inl c → c ≠ 0
theorem Rs.ok : Rs (some (.inr ())) (some 0) := ⟨_, rfl, rfl, fun c h => by cases h⟩
theorem Rs.err {e : Int} (he : e ≠ 0) : Rs (some (.inl e)) (some e) := ⟨_, rfl, rfl, fun c h => by cases h; exact he⟩
theorem Rs.need {ok bad : Bool} {e : Int} {f : Unit → Option (Int ⊕ Unit)} {k : Option Int} (he : e ≠ 0) (hb : bad = !ok) (h : ok = true → Rs (f ()) k) : Rs (bindX (lf_scope_need ok e) f) (bif bad then some e else k) := by
  subst hb
  cases ok with
  | true => exact h rfl
  | false => exact Rs.err he
theorem Rs.bind {x : Option (Int ⊕ Unit)} {y : Option Int} {f : Unit → Option (Int ⊕ Unit)} {k : Option Int} (h : Rs x y) (hk : Rs (f ()) k) : Rs (bindX x f) (y.bind fun r => bif r != 0 then some r else k) := by
  obtain ⟨s, rfl, rfl, hs⟩ := h
  cases s with
  | inr u => exact hk
  | inl c =>
    have hc := hs c rfl
    rw [Option.bind_some]
    simp only [caughtV]
    rw [show (c != 0) = true by simpa using hc]
    exact Rs.err hc
theorem ixf_val (s : ByteArray) : ∀ (l : List S_api_Decl) (i : Nat), ∃ r, lf_slices_IndexFunc_s4_L0 (some (-1)) s l i = some r ∧ decide (r ≥ (0 : Int)) = l.any fun d => d.f0_Name.toList == s.toList
  | [], i => ⟨-1, by rw [lf_slices_IndexFunc_s4_L0], by simp⟩
  | d :: l, i => by
    rw [lf_slices_IndexFunc_s4_L0, lf_scope_declared_1, Option.bind_some, List.any_cons]
    cases h : d.f0_Name.toList == s.toList with
    | true => exact ⟨_, rfl, by simp⟩
    | false =>
      obtain ⟨r, e1, e2⟩ := ixf_val s l (i + 1)
      exact ⟨r, e1, by rw [e2]; rfl⟩
theorem declare_val (k : Int → Option Int) (s : ByteArray) : ∀ (l : List S_api_Decl) (e : Int), lf_constraintref15_declare_L0 k s l e = k (bif l.any (fun d => d.f0_Name.toList == s.toList) then 9 else e)
  | [], e => by rw [lf_constraintref15_declare_L0]; rfl
  | d :: l, e => by
    rw [lf_constraintref15_declare_L0, List.any_cons]
    cases h : d.f0_Name.toList == s.toList with
    | true =>
      rw [cond_true, declare_val k s l 9]
      cases l.any (fun d => d.f0_Name.toList == s.toList) <;> rfl
    | false => rw [cond_false, declare_val k s l e]; rfl
theorem declared_same (ds : List S_api_Decl) (s : ByteArray) (n : Int) : Rs (lf_scope_declared ds s n) (lf_constraintref15_declare ds s n) := by
  rw [lf_scope_declared, lf_slices_ContainsFunc_s3, lf_slices_IndexFunc_s4, lf_constraintref15_declare, declare_val, Declared_eq, refDeclared_eq]
  obtain ⟨r, e1, e2⟩ := ixf_val s ds 0
  rw [e1, Option.bind_some, Option.bind_some, e2, Option.bind_some, Option.bind_some]
  cases h : ds.any (fun d => d.f0_Name.toList == s.toList) with
  | false =>
    have h2 : ¬ (⟨s, n⟩ : S_api_Decl) ∈ ds := fun hm => by
      have := List.any_eq_false.1 h _ hm
      simp at this
    rw [decide_eq_false h2]
    exact Rs.err (by decide)
  | true =>
    by_cases h2 : (⟨s, n⟩ : S_api_Decl) ∈ ds
    · rw [decide_eq_true h2]; exact Rs.ok
    · rw [decide_eq_false h2]; exact Rs.err (by decide)
theorem calls_same {k : Option (Int ⊕ Unit)} {k' : Option Int} (hk : Rs k k') (ds : List S_api_Decl) : ∀ l : List Gl, Rs (lf_scope_calls_L0 k ds l) (lf_constraintref15_calls_L0 k' ds l)
  | [] => by rw [lf_scope_calls_L0, lf_constraintref15_calls_L0]; exact hk
  | g :: l => by
    rw [lf_scope_calls_L0, lf_constraintref15_calls_L0]
    by_cases h : g.op = 0
    · rw [show (g.op == (0 : Int)) = true by simpa using h, show (g.op != (0 : Int)) = false by simpa using h]
      exact Rs.bind (declared_same _ _ _) (calls_same hk ds l)
    · rw [show (g.op == (0 : Int)) = false by simpa using h, show (g.op != (0 : Int)) = true by simpa using h]
      exact calls_same hk ds l
theorem test_val (n : Int) : ∃ b, lf_scope_test n = some b ∧ lf_constraintref15_Test n = some b := by
  unfold lf_scope_test lf_constraintref15_Test
  cases decide (n ≥ (5 : Int)) <;> exact ⟨_, rfl, rfl⟩
theorem cq_L0 {k : Option (Int ⊕ Unit)} {k' : Option Int} (hk : Rs k k') : ∀ l : List Gl, wG l ≤ 1000 → Rs (lf_scope_CheckQuery_1_L0 k l) (lf_constraintref15_CheckQuery_L0 k' l)
  | [], _ => by rw [lf_scope_CheckQuery_1_L0, lf_constraintref15_CheckQuery_L0]; exact hk
  | g :: l, h => by
    simp only [wG] at h
    rw [lf_scope_CheckQuery_1_L0, lf_constraintref15_CheckQuery_L0, x_rightG_eq _ (by omega), Option.bind_some, Option.bind_some]
    exact Rs.need (by decide) rfl fun _ => cq_L0 hk l (by omega)
theorem cq_L1 {k : Option (Int ⊕ Unit)} {k' : Option Int} (hk : Rs k k') : ∀ l : List Gl, Rs (lf_scope_CheckQuery_1_L1 k l) (lf_constraintref15_CheckQuery_L1 k' l)
  | [] => by rw [lf_scope_CheckQuery_1_L1, lf_constraintref15_CheckQuery_L1]; exact hk
  | g :: l => by
    obtain ⟨b, e1, e2⟩ := test_val g.op
    rw [lf_scope_CheckQuery_1_L1, lf_constraintref15_CheckQuery_L1, e1, e2, Option.bind_some, Option.bind_some]
    exact Rs.need (by decide) (by simp) fun _ => cq_L1 hk l
theorem cq_L2 {k : Option (Int ⊕ Unit)} {k' : Option Int} (hk : Rs k k') (n : Int) : ∀ l : List Int, Rs (lf_scope_CheckQuery_1_L2 k n l) (lf_constraintref15_CheckQuery_L3 k' n l)
  | [] => by rw [lf_scope_CheckQuery_1_L2, lf_constraintref15_CheckQuery_L3]; exact hk
  | x :: l => by
    rw [lf_scope_CheckQuery_1_L2, lf_constraintref15_CheckQuery_L3]
    refine Rs.need (by decide) ?_ fun _ => cq_L2 hk n l
    by_cases h : x < n
    · rw [decide_eq_true h, decide_eq_false (by omega)]; rfl
    · rw [decide_eq_false h, decide_eq_true (by omega)]; rfl
theorem cq_app (k : Option (Int ⊕ Unit)) (n : Int) : ∀ a b : List Int, lf_scope_CheckQuery_1_L2 k n (a ++ b) = lf_scope_CheckQuery_1_L2 (lf_scope_CheckQuery_1_L2 k n b) n a
  | [], b => by rw [List.nil_append, lf_scope_CheckQuery_1_L2.eq_1 (lf_scope_CheckQuery_1_L2 k n b)]
  | x :: a, b => by
    rw [List.cons_append, lf_scope_CheckQuery_1_L2, lf_scope_CheckQuery_1_L2, cq_app k n a b]
theorem cq_vars {k : Option (Int ⊕ Unit)} {k' : Option Int} (hk : Rs k k') (fuel : Nat) (hf : 1048577 ≤ fuel) (n : Int) : ∀ l : List Gl, wG l ≤ 1000 → Rs (lf_scope_CheckQuery_1_L2 k n (vG l)) (lf_constraintref15_CheckQuery_L2 k' fuel n l)
  | [], _ => by rw [lf_constraintref15_CheckQuery_L2, vG, lf_scope_CheckQuery_1_L2]; exact hk
  | g :: l, h => by
    simp only [wG] at h
    rw [lf_constraintref15_CheckQuery_L2, vG, cq_app, lf_constraintref03_GoalVars, varsOf_lf fuel _ (by omega) (by omega), Option.bind_some, Option.bind_some]
    exact cq_L2 (cq_vars hk fuel hf n l (by omega)) n _
theorem goalVars_one (a : List Gl) (ha : wG a ≤ 1000) : lf_scope_goalVars [a] = some (vG a) := by
  rw [lf_scope_goalVars, lf_scope_goalVars_L0, gv_eq _ _ _ (by simp; omega), lf_scope_goalVars_L0]
  rfl
theorem query_same (fuel : Nat) (hf : 1048577 ≤ fuel) (ds : List S_api_Decl) (l : List Gl) (n : Int) (hl : wG l ≤ 1000) : Rs (lf_scope_CheckQuery_1 l n ds) (lf_constraintref15_CheckQuery fuel ds l n) := by
  rw [lf_scope_CheckQuery_1, lf_constraintref15_CheckQuery, goalVars_one l hl, Option.bind_some, lf_scope_CheckQuery_1_J0]
  by_cases h1 : (l.length : Int) ≤ 40
  · rw [decide_eq_true h1, decide_eq_false (p := (l.length : Int) > 40) (by omega), cond_true, cond_false]
    by_cases h2 : n ≥ 0
    · rw [decide_eq_true h2, decide_eq_false (p := n < 0) (by omega), cond_true, cond_false]
      refine Rs.need (by decide) ?_ fun _ => ?_
      · by_cases h : n ≤ 100
        · rw [decide_eq_true h, decide_eq_false (by omega)]; rfl
        · rw [decide_eq_false h, decide_eq_true (by omega)]; rfl
      · exact cq_L0 (Rs.bind (calls_same Rs.ok ds l) (cq_L1 (cq_vars Rs.ok fuel hf n l hl) l)) l hl
    · rw [decide_eq_false h2, decide_eq_true (p := n < 0) (by omega), cond_true, cond_false]
      exact Rs.err (by decide)
  · rw [decide_eq_false h1, decide_eq_true (p := (l.length : Int) > 40) (by omega), cond_true, cond_false]
    exact Rs.err (by decide)
theorem queries_lf (fuel : Nat) (hf : 1048577 ≤ fuel) (ds : List S_api_Decl) (l : List Gl) (n : Int) (hn : NmG l) : lf_constraintlaw15_ScopeQueries fuel ds l n = some true := by
  rw [lf_constraintlaw15_ScopeQueries]
  obtain ⟨b, e1, e2⟩ := great_lf ⟨ds, []⟩ 400 (by omega) (fun x hx => by cases hx)
  rw [e1, Option.bind_some]
  cases b with
  | true => rfl
  | false =>
    obtain ⟨b, f1, f2⟩ := greatG_lf l 600 (by omega) hn
    rw [cond_false, f1, Option.bind_some]
    cases b with
    | true => rfl
    | false =>
      have := f2 rfl
      obtain ⟨s, g1, g2, _⟩ := query_same fuel hf ds l n (by omega)
      rw [cond_false, lf_scope_CheckQuery, g1, g2]
      simp only [Option.bind_some, beq_self_eq_true, cond_true, live15]
theorem gives_ScopeQueries (ds : List S_api_Decl) (l : List Gl) (n : Int) : Gives Try.prog 5 [.lst (ds.map enc_S_api_Decl), .lst (l.map encG), .int .i64 n] (.bool true) := fun w p vs hi hv => by
  have hv' := hv
  simp only [Repl] at hv'
  obtain ⟨_, _, _, _, v, _, _, h, _⟩ := hv'
  exact lg_constraintlaw15_ScopeQueries 1048577 ds l n true (queries_lf _ (Nat.le_refl _) ds l n (nmG_of h)) w p vs hi hv
end Go.Proofs.Ytgndcnknmkcacaa
namespace Go.Proofs.Ytgndcnknmkcacaa
set_option maxRecDepth 100000
open Go.RowKit

mutual
theorem occT_nn : ∀ t : T, formT t = true → ∀ x ∈ occT t, 0 ≤ x
  | .mk k i s ar, h, x, hx => by
    simp only [occT] at hx
    split at hx
    · rename_i hk
      rw [formT_1 (t := .mk k i s ar) hk] at h
      have := (of_decide_eq_true h).1
      rw [List.mem_singleton.1 hx]
      exact this
    · split at hx
      · rename_i hk
        rw [formT_2 (t := .mk k i s ar) hk, Bool.and_eq_true] at h
        exact occL_nn ar h.2 x hx
      · cases hx
theorem occL_nn : ∀ ts : List T, formL ts = true → ∀ x ∈ occL ts, 0 ≤ x
  | [], _, x, hx => by simp [occL] at hx
  | t :: ts, h, x, hx => by
    simp only [formL, Bool.and_eq_true] at h
    simp only [occL, List.mem_append] at hx
    exact hx.elim (occT_nn t h.1 x) (occL_nn ts h.2 x)
end
/-- i, i + 1, .. -/
def iot (i : Nat) : Nat → List Int
  | 0 => []
  | n + 1 => (i : Int) :: iot (i + 1) n
theorem iot_len : ∀ n i : Nat, (iot i n).length = n
  | 0, _ => rfl
  | n + 1, i => by simp [iot, iot_len n]
theorem iot_snoc : ∀ n i : Nat, iot i (n + 1) = iot i n ++ [((i + n : Nat) : Int)]
  | 0, i => rfl
  | n + 1, i => by
    rw [iot, iot_snoc n (i + 1), iot]
    simp only [List.cons_append]
    congr 3
    omega
theorem mem_iot (x : Int) : ∀ n i : Nat, x ∈ iot i n ↔ (i : Int) ≤ x ∧ x < ((i + n : Nat) : Int)
  | 0, i => by simp [iot]
  | n + 1, i => by
    rw [iot, List.mem_cons, mem_iot x n (i + 1)]
    omega
theorem uniq_pre : ∀ (xs l : List Int), ∃ r, uniq l xs = l ++ r
  | [], l => ⟨[], by simp [uniq_nil]⟩
  | x :: xs, l => by
    show ∃ r, uniq (addU l x) xs = l ++ r
    obtain ⟨r, e⟩ := uniq_pre xs (addU l x)
    rw [e]
    unfold addU
    split
    · exact ⟨r, rfl⟩
    · exact ⟨[x] ++ r, by simp⟩
theorem cr_vars (k : Int → Option (Int ⊕ Unit)) : ∀ (G : List Int) (n : Nat), n + G.length ≤ 1000000 → (∀ x ∈ G, 0 ≤ x) → (lf_scope_CheckRule_1_L2 k G n = some (.inl 2) ∧ ∃ a x r, uniq (iot 0 n) G = iot 0 a ++ (x :: r) ∧ x ≠ (a : Int)) ∨ ∃ m : Nat, m ≤ n + G.length ∧ lf_scope_CheckRule_1_L2 k G n = k m ∧ uniq (iot 0 n) G = iot 0 m
  | [], n, _, _ => .inr ⟨n, by simp, by rw [lf_scope_CheckRule_1_L2], by simp [uniq_nil]⟩
  | x :: G, n, hb, h => by
    simp only [List.length_cons] at hb
    have h0 := h x (List.mem_cons_self ..)
    have hG : ∀ y ∈ G, 0 ≤ y := fun y hy => h y (List.mem_cons_of_mem _ hy)
    rw [lf_scope_CheckRule_1_L2]
    show (_ ∧ ∃ a y r, uniq (addU (iot 0 n) x) G = _ ∧ _) ∨ ∃ m : Nat, _ ∧ _ ∧ uniq (addU (iot 0 n) x) G = _
    by_cases h1 : x ≤ (n : Int)
    · rw [decide_eq_true h1]
      by_cases h2 : x = (n : Int)
      · have hm : ¬ x ∈ iot 0 n := by rw [mem_iot]; omega
        have e : addU (iot 0 n) x = iot 0 (n + 1) := by rw [addU, if_neg hm, iot_snoc, h2, Nat.zero_add]
        rw [e, show (x == (n : Int)) = true by simpa using h2, wr_eq (by omega)]
        rcases cr_vars k G (n + 1) (by omega) hG with ⟨a1, a2⟩ | ⟨m, m1, m2, m3⟩
        · exact .inl ⟨a1, a2⟩
        · exact .inr ⟨m, by simp only [List.length_cons]; omega, m2, m3⟩
      · have hm : x ∈ iot 0 n := by rw [mem_iot]; omega
        have e : addU (iot 0 n) x = iot 0 n := by rw [addU, if_pos hm]
        rw [e, show (x == (n : Int)) = false by simpa using h2]
        rcases cr_vars k G n (by omega) hG with ⟨a1, a2⟩ | ⟨m, m1, m2, m3⟩
        · exact .inl ⟨a1, a2⟩
        · exact .inr ⟨m, by simp only [List.length_cons]; omega, m2, m3⟩
    · rw [decide_eq_false h1]
      have hm : ¬ x ∈ iot 0 n := by rw [mem_iot]; omega
      obtain ⟨r, e⟩ := uniq_pre G (addU (iot 0 n) x)
      refine .inl ⟨rfl, n, x, r, ?_, by omega⟩
      rw [e, addU, if_neg hm]
      simp
theorem rr_ok (k : Option Int) : ∀ (n i : Nat), lf_constraintref15_CheckRule_L2 k (iot i n) i = k
  | 0, i => by rw [iot, lf_constraintref15_CheckRule_L2]
  | n + 1, i => by
    rw [iot, lf_constraintref15_CheckRule_L2, bne_self_eq_false, cond_false]
    exact rr_ok k n (i + 1)
theorem rr_bad (k : Option Int) (x : Int) (r : List Int) : ∀ (n i : Nat), x ≠ ((i + n : Nat) : Int) → lf_constraintref15_CheckRule_L2 k (iot i n ++ (x :: r)) i = some 2
  | 0, i, h => by
    rw [iot, List.nil_append, lf_constraintref15_CheckRule_L2, show (x != (i : Int)) = true by simpa using h]
    rfl
  | n + 1, i, h => by
    rw [iot, List.cons_append, lf_constraintref15_CheckRule_L2, bne_self_eq_false, cond_false]
    exact rr_bad k x r n (i + 1) (by omega)
theorem foldV_vA (V : List Int) : ∀ (l : List At) (out : List Int), (vA l).foldl (addV V) out = (occL (tA l)).foldl (addV V) out
  | [], out => by simp [vA, tA, occL]
  | a :: l, out => by
    simp only [vA, tA, occL_app, List.foldl_append, foldV_uniq, List.foldl_nil, foldV_vA V l]
theorem addV_nil : addV [] = addU := by
  funext l x
  simp [addV, addU]
theorem uniq_vars (a : List At) (g : List Gl) : uniq [] (vA a ++ vG g) = uniq [] (occL (tA a ++ tGs g)) := by
  have h1 := foldV_vA [] a []
  have h2 := foldV_vG [] g (uniq [] (vA a))
  rw [addV_nil] at h1 h2
  rw [uniq_app, occL_app, uniq_app]
  show (vG g).foldl addU (uniq [] (vA a)) = (occL (tGs g)).foldl addU (uniq [] (occL (tA a)))
  rw [h2]
  congr 1

/-! ### the rule -/
theorem avs_eq (k : List Int → Option (List Int)) : ∀ (l : List At) (out : List Int), out.length + wA l ≤ 1000000 → lf_scope_atomVars_s1_L1 k l out = k (out ++ vA l)
  | [], out, _ => by rw [lf_scope_atomVars_s1_L1]; simp [vA]
  | a :: l, out, hb => by
    have hu := uo_len a.ts
    simp only [wA] at hb
    rw [lf_scope_atomVars_s1_L1, x_varsA_eq _ (by omega), Option.bind_some, appO_eq (by omega) (by omega), Option.bind_some, avs_eq k l _ (by rw [List.length_append]; omega)]
    simp [vA]
theorem atomVarsS_eq (a b : List At) (ha : wA a ≤ 1000) (hb : wA b ≤ 1000) : lf_scope_atomVars_s1 [a, b] = some (vA (a ++ b)) := by
  have h1 := vA_len a
  rw [lf_scope_atomVars_s1, lf_scope_atomVars_s1_L0, avs_eq _ _ _ (by simp; omega), lf_scope_atomVars_s1_L0, avs_eq _ _ _ (by simp; omega), lf_scope_atomVars_s1_L0, vA_app]
  rfl
theorem s9 {k : Option (Int ⊕ Unit)} {k' : Option Int} : ∀ l : List At, wA l ≤ 1000 → ((∀ a ∈ l, rightA a = true) → Rs k k') → Rs (lf_scope_CheckRule_1_L9 k l) (lf_constraintref15_CheckRule_L0 k' l)
  | [], _, hk => by rw [lf_scope_CheckRule_1_L9, lf_constraintref15_CheckRule_L0]; exact hk fun a h => by cases h
  | a :: l, h, hk => by
    simp only [wA] at h
    rw [lf_scope_CheckRule_1_L9, lf_constraintref15_CheckRule_L0, x_rightA_eq _ (by omega), Option.bind_some, Option.bind_some]
    exact Rs.need (by decide) rfl fun ha => s9 l (by omega) fun hl => hk fun x hx => (List.mem_cons.1 hx).elim (fun e => e ▸ ha) (hl x)
theorem s8 {k : Option (Int ⊕ Unit)} {k' : Option Int} : ∀ l : List Gl, wG l ≤ 1000 → ((∀ a ∈ l, rightG a = true) → Rs k k') → Rs (lf_scope_CheckRule_1_L8 k l) (lf_constraintref15_CheckRule_L1 k' l)
  | [], _, hk => by rw [lf_scope_CheckRule_1_L8, lf_constraintref15_CheckRule_L1]; exact hk fun a h => by cases h
  | a :: l, h, hk => by
    simp only [wG] at h
    rw [lf_scope_CheckRule_1_L8, lf_constraintref15_CheckRule_L1, x_rightG_eq _ (by omega), Option.bind_some, Option.bind_some]
    exact Rs.need (by decide) rfl fun ha => s8 l (by omega) fun hl => hk fun x hx => (List.mem_cons.1 hx).elim (fun e => e ▸ ha) (hl x)
theorem r0_app (k : Option Int) : ∀ a b : List At, lf_constraintref15_CheckRule_L0 k (a ++ b) = lf_constraintref15_CheckRule_L0 (lf_constraintref15_CheckRule_L0 k b) a
  | [], b => by rw [List.nil_append, lf_constraintref15_CheckRule_L0.eq_1 (lf_constraintref15_CheckRule_L0 k b)]
  | x :: a, b => by rw [List.cons_append, lf_constraintref15_CheckRule_L0, lf_constraintref15_CheckRule_L0, r0_app k a b]
theorem r1_app (k : Option Int) : ∀ a b : List Gl, lf_constraintref15_CheckRule_L1 k (a ++ b) = lf_constraintref15_CheckRule_L1 (lf_constraintref15_CheckRule_L1 k b) a
  | [], b => by rw [List.nil_append, lf_constraintref15_CheckRule_L1.eq_1 (lf_constraintref15_CheckRule_L1 k b)]
  | x :: a, b => by rw [List.cons_append, lf_constraintref15_CheckRule_L1, lf_constraintref15_CheckRule_L1, r1_app k a b]
theorem m0_app (k : Option Int) (ds : List S_api_Decl) : ∀ a b : List At, lf_constraintref15_meaning_L0 k ds (a ++ b) = lf_constraintref15_meaning_L0 (lf_constraintref15_meaning_L0 k ds b) ds a
  | [], b => by rw [List.nil_append, lf_constraintref15_meaning_L0.eq_1 (lf_constraintref15_meaning_L0 k ds b)]
  | x :: a, b => by rw [List.cons_append, lf_constraintref15_meaning_L0, lf_constraintref15_meaning_L0, m0_app k ds a b]
theorem rc_app (k : Option Int) (ds : List S_api_Decl) : ∀ a b : List Gl, lf_constraintref15_calls_L0 k ds (a ++ b) = lf_constraintref15_calls_L0 (lf_constraintref15_calls_L0 k ds b) ds a
  | [], b => by rw [List.nil_append, lf_constraintref15_calls_L0.eq_1 (lf_constraintref15_calls_L0 k ds b)]
  | x :: a, b => by rw [List.cons_append, lf_constraintref15_calls_L0, lf_constraintref15_calls_L0, rc_app k ds a b]
theorem bx_assoc {a : Option (Int ⊕ Unit)} {g f : Unit → Option (Int ⊕ Unit)} : bindX (bindX a g) f = bindX a fun u => bindX (g u) f := by
  cases a with
  | none => rfl
  | some s => cases s <;> rfl
theorem calls_bind (k : Option (Int ⊕ Unit)) (ds : List S_api_Decl) : ∀ l : List Gl, lf_scope_calls_L0 k ds l = bindX (lf_scope_calls_L0 (some (.inr ())) ds l) fun _ => k
  | [] => by rw [lf_scope_calls_L0, lf_scope_calls_L0]; rfl
  | g :: l => by
    rw [lf_scope_calls_L0, lf_scope_calls_L0]
    cases g.op == (0 : Int) with
    | true => rw [cond_true, cond_true, bx_assoc]; congr 1; funext u; exact calls_bind k ds l
    | false => rw [cond_false, cond_false]; exact calls_bind k ds l
theorem s7 {k : Option (Int ⊕ Unit)} {k' : Option Int} (hk : Rs k k') (ds : List S_api_Decl) : ∀ l : List At, Rs (lf_scope_CheckRule_1_L7 k ds l) (lf_constraintref15_meaning_L0 k' ds l)
  | [] => by rw [lf_scope_CheckRule_1_L7, lf_constraintref15_meaning_L0]; exact hk
  | a :: l => by
    rw [lf_scope_CheckRule_1_L7, lf_constraintref15_meaning_L0]
    exact Rs.bind (declared_same _ _ _) (s7 hk ds l)
theorem s5 {k : Option (Int ⊕ Unit)} {k' : Option Int} (hk : Rs k k') : ∀ l : List Gl, Rs (lf_scope_CheckRule_1_L5 k l) (lf_constraintref15_meaning_L2 k' l)
  | [] => by rw [lf_scope_CheckRule_1_L5, lf_constraintref15_meaning_L2]; exact hk
  | g :: l => by
    obtain ⟨b, e1, e2⟩ := test_val g.op
    rw [lf_scope_CheckRule_1_L5, lf_constraintref15_meaning_L2, e1, e2, Option.bind_some, Option.bind_some]
    exact Rs.need (by decide) (by simp) fun _ => s5 hk l
theorem s4 {k : Option (Int ⊕ Unit)} {k' : Option Int} (hk : Rs k k') : ∀ l : List Gl, Rs (lf_scope_CheckRule_1_L4 k l) (lf_constraintref15_meaning_L1 k' l)
  | [] => by rw [lf_scope_CheckRule_1_L4, lf_constraintref15_meaning_L1]; exact hk
  | g :: l => by
    obtain ⟨b, e1, e2⟩ := test_val g.op
    rw [lf_scope_CheckRule_1_L4, lf_constraintref15_meaning_L1, e1, e2, Option.bind_some, Option.bind_some]
    cases b with
    | true => exact s4 hk l
    | false => exact Rs.need (by decide) rfl fun _ => s4 hk l
theorem ixi_val (v : Int) : ∀ (l : List Int) (i : Nat), ∃ r, lf_slices_Index_int_int_L0 (some (-1)) v l i = some r ∧ decide (r ≥ (0 : Int)) = decide (v ∈ l)
  | [], i => ⟨-1, by rw [lf_slices_Index_int_int_L0], by simp⟩
  | d :: l, i => by
    rw [lf_slices_Index_int_int_L0]
    by_cases h : v = d
    · rw [show (v == d) = true by simpa using h, cond_true]
      exact ⟨_, rfl, by subst h; simp⟩
    · rw [show (v == d) = false by simpa using h, cond_false]
      obtain ⟨r, e1, e2⟩ := ixi_val v l (i + 1)
      exact ⟨r, e1, by rw [e2]; simp [h]⟩
theorem s6 {k : Option (Int ⊕ Unit)} {k' : Option Int} (hk : Rs k k') (V W : List Int) (hV : ∀ x, x ∈ V ↔ x ∈ W) : ∀ l : List Int, Rs (lf_scope_CheckRule_1_L6 k V l) (lf_constraintref15_meaning_L4 k' W l)
  | [] => by rw [lf_scope_CheckRule_1_L6, lf_constraintref15_meaning_L4]; exact hk
  | x :: l => by
    obtain ⟨r, e1, e2⟩ := ixi_val x V 0
    rw [lf_scope_CheckRule_1_L6, lf_constraintref15_meaning_L4, lf_slices_Contains_int_int, lf_slices_Index_int_int, e1, in_lf]
    simp only [Option.bind_some]
    rw [e2]
    refine Rs.need (by decide) ?_ fun _ => s6 hk V W hV l
    simp [hV x]
theorem c6_app (k : Option (Int ⊕ Unit)) (V : List Int) : ∀ a b : List Int, lf_scope_CheckRule_1_L6 k V (a ++ b) = lf_scope_CheckRule_1_L6 (lf_scope_CheckRule_1_L6 k V b) V a
  | [], b => by rw [List.nil_append, lf_scope_CheckRule_1_L6.eq_1 (lf_scope_CheckRule_1_L6 k V b)]
  | x :: a, b => by rw [List.cons_append, lf_scope_CheckRule_1_L6, lf_scope_CheckRule_1_L6, c6_app k V a b]
theorem s6g {k : Option (Int ⊕ Unit)} {k' : Option Int} (hk : Rs k k') (fuel : Nat) (hf : 1048577 ≤ fuel) (V W : List Int) (hV : ∀ x, x ∈ V ↔ x ∈ W) : ∀ l : List Gl, wG l ≤ 1000 → Rs (lf_scope_CheckRule_1_L6 k V (vG l)) (lf_constraintref15_meaning_L3 k' fuel W l)
  | [], _ => by rw [lf_constraintref15_meaning_L3, vG, lf_scope_CheckRule_1_L6]; exact hk
  | g :: l, h => by
    simp only [wG] at h
    rw [lf_constraintref15_meaning_L3, vG, c6_app, lf_constraintref03_GoalVars, varsOf_lf fuel _ (by omega) (by omega), Option.bind_some, Option.bind_some]
    exact s6 (s6g hk fuel hf V W hV l (by omega)) V W hV _
end Go.Proofs.Ytgndcnknmkcacaa
namespace Go.Proofs.Ytgndcnknmkcacaa
set_option maxRecDepth 100000
open Go.RowKit

theorem isNameR_eq (s : ByteArray) (h : s.size ≤ 9223372036854775807) : x_isNameR s = some (isName s) := if_pos h
theorem bind_self (x : Option Int) : (x.bind fun a => some a) = x := by cases x <;> rfl
theorem rightL_A {a : At} (h : rightA a = true) : formL a.ts = true := by
  simp only [rightA, rightL, Bool.and_eq_true] at h
  exact h.2.1.1
theorem rightL_G {g : Gl} (h : rightG g = true) : formL g.ts = true := by
  unfold rightG at h
  split at h
  · exact rightL_A (a := ⟨g.n, g.ts⟩) h
  · simp only [rightL, Bool.and_eq_true] at h
    exact h.2.1.1
theorem vA_nn : ∀ l : List At, (∀ a ∈ l, rightA a = true) → ∀ x ∈ vA l, 0 ≤ x
  | [], _, x, hx => by cases hx
  | a :: l, h, x, hx => by
    simp only [vA, List.mem_append, mem_uniq, List.not_mem_nil, false_or] at hx
    exact hx.elim (occL_nn _ (rightL_A (h a (List.mem_cons_self ..))) x) (vA_nn l (fun b hb => h b (List.mem_cons_of_mem _ hb)) x)
theorem vG_nn : ∀ l : List Gl, (∀ a ∈ l, rightG a = true) → ∀ x ∈ vG l, 0 ≤ x
  | [], _, x, hx => by cases hx
  | a :: l, h, x, hx => by
    simp only [vG, List.mem_append, mem_uniq, List.not_mem_nil, false_or] at hx
    exact hx.elim (occL_nn _ (rightL_G (h a (List.mem_cons_self ..))) x) (vG_nn l (fun b hb => h b (List.mem_cons_of_mem _ hb)) x)
theorem vv_L0 (k : List T → Option (List Int)) : ∀ (l : List At) (acc : List T), acc.length + wA l ≤ 1000000 → lf_constraintref15_Vars_L0 k l acc = k (acc ++ tA l)
  | [], acc, _ => by rw [lf_constraintref15_Vars_L0]; simp [tA]
  | a :: l, acc, h => by
    have h1 := len_wtL a.ts
    simp only [wA] at h
    rw [lf_constraintref15_Vars_L0, appO_eq (by omega) (by omega), Option.bind_some, vv_L0 k l _ (by rw [List.length_append]; omega)]
    simp [tA]
theorem vv_L1 (k : List T → Option (List Int)) : ∀ (l : List Gl) (acc : List T), acc.length + wG l ≤ 1000000 → lf_constraintref15_Vars_L1 k l acc = k (acc ++ tGs l)
  | [], acc, _ => by rw [lf_constraintref15_Vars_L1]; simp [tGs]
  | a :: l, acc, h => by
    have h1 := len_wtL a.ts
    simp only [wG] at h
    rw [lf_constraintref15_Vars_L1, appO_eq (by omega) (by omega), Option.bind_some, vv_L1 k l _ (by rw [List.length_append]; omega)]
    simp [tGs]
theorem wA_app : ∀ a b : List At, wA (a ++ b) = wA a + wA b
  | [], b => by simp [wA]
  | x :: a, b => by simp only [List.cons_append, wA, wA_app a b]; omega
theorem wG_app : ∀ a b : List Gl, wG (a ++ b) = wG a + wG b
  | [], b => by simp [wG]
  | x :: a, b => by simp only [List.cons_append, wG, wG_app a b]; omega
theorem heads_eq (r : S_api_Rule) (h : Bd r) : lf_constraintref15_heads r = some (r.f1_Keep ++ r.f2_Remove) := by
  have := h.a; have := h.b
  have l1 := wA_len r.f1_Keep
  have l2 := wA_len r.f2_Remove
  rw [lf_constraintref15_heads, appO_eq (by simp; omega) (by simp; omega), Option.bind_some, appO_eq (by simp; omega) (by simp; omega), Option.bind_some]
  rfl
theorem goals_eq (r : S_api_Rule) (h : Bd r) : lf_constraintref15_goals r = some (r.f3_Guard ++ r.f4_Body) := by
  have := h.c; have := h.d
  have l1 := wG_len r.f3_Guard
  have l2 := wG_len r.f4_Body
  rw [lf_constraintref15_goals, appO_eq (by simp; omega) (by simp; omega), Option.bind_some, appO_eq (by simp; omega) (by simp; omega), Option.bind_some]
  rfl
theorem headVars_eq (fuel : Nat) (hf : 1048577 ≤ fuel) (r : S_api_Rule) (h : Bd r) : lf_constraintref15_headVars fuel r = some (uniq [] (occL (tA (r.f1_Keep ++ r.f2_Remove)))) := by
  have := h.a; have := h.b
  have w := wA_app r.f1_Keep r.f2_Remove
  have t := tA_wt (r.f1_Keep ++ r.f2_Remove)
  rw [lf_constraintref15_headVars, heads_eq r h, Option.bind_some, hv_L0 _ _ _ (by simp only [List.length_nil]; omega), List.nil_append, varsOf_lf fuel _ (by omega) (by omega)]
  rfl
theorem vars_eq (fuel : Nat) (hf : 1048577 ≤ fuel) (r : S_api_Rule) (h : Bd r) : lf_constraintref15_Vars fuel r = some (uniq [] (vA (r.f1_Keep ++ r.f2_Remove) ++ vG (r.f3_Guard ++ r.f4_Body))) := by
  have := h.a; have := h.b; have := h.c; have := h.d
  have w := wA_app r.f1_Keep r.f2_Remove
  have w' := wG_app r.f3_Guard r.f4_Body
  have t := tA_wt (r.f1_Keep ++ r.f2_Remove)
  have t' := tGs_wt (r.f3_Guard ++ r.f4_Body)
  have l := len_wtL (tA (r.f1_Keep ++ r.f2_Remove))
  rw [lf_constraintref15_Vars, heads_eq r h, Option.bind_some, vv_L0 _ _ _ (by simp only [List.length_nil]; omega), List.nil_append, goals_eq r h, Option.bind_some, vv_L1 _ _ _ (by omega), varsOf_lf fuel _ (by rw [wtL_app]; omega) (by rw [wtL_app]; omega), Option.bind_some, uniq_vars]
theorem meaning_same (fuel : Nat) (hf : 1048577 ≤ fuel) (ds : List S_api_Decl) (r : S_api_Rule) (h : Bd r) : Rs (lf_scope_CheckRule_1_L3 (bindX (lf_scope_calls ds r.f3_Guard) fun _ =>
      bindX (lf_scope_calls ds r.f4_Body) fun _ =>
      lf_scope_CheckRule_1_L4 (lf_scope_CheckRule_1_L5 ((lf_scope_atomVars [r.f1_Keep, r.f2_Remove]).bind fun r_18 =>
      (lf_scope_goalVars [r.f3_Guard]).bind fun r_19 =>
      lf_scope_CheckRule_1_L6 (some (.inr ())) r_18 r_19) r.f4_Body) r.f3_Guard) r ds (2 - 0 : Int).toNat 0) (lf_constraintref15_meaning fuel ds r) := by
  rw [lf_constraintref15_meaning, heads_eq r h, goals_eq r h, headVars_eq fuel hf r h, atomVars_eq _ _ h.a h.b, goalVars_one _ h.c]
  simp only [Option.bind_some]
  rw [m0_app]
  refine (?_ : Rs (lf_scope_CheckRule_1_L7 (lf_scope_CheckRule_1_L7 _ ds r.f2_Remove) ds r.f1_Keep) _)
  refine s7 (s7 ?_ ds _) ds _
  rw [← bx_assoc]
  refine Rs.bind ?_ (s4 (s5 (s6g Rs.ok fuel hf _ _ (fun x => ?_) _ h.c) _) _)
  · rw [lf_constraintref15_calls, rc_app, lf_scope_calls, lf_scope_calls, ← calls_bind]
    exact calls_same (calls_same Rs.ok ds _) ds _
  · simp [mem_vA, mem_uniq]
theorem rule_same (fuel : Nat) (hf : 1048577 ≤ fuel) (ds : List S_api_Decl) (r : S_api_Rule) (h : Bd r) (hs : r.f0_Name.size ≤ 9223372036854775807) : Rs (lf_scope_CheckRule_1 r ds) (lf_constraintref15_CheckRule fuel ds r) := by
  have ha := h.a; have hb := h.b; have hc := h.c; have hd := h.d
  have l1 := wA_len r.f1_Keep
  have l2 := wA_len r.f2_Remove
  have w := wA_app r.f1_Keep r.f2_Remove
  have w' := wG_app r.f3_Guard r.f4_Body
  have u1 := vA_len (r.f1_Keep ++ r.f2_Remove)
  have u2 := vG_len (r.f3_Guard ++ r.f4_Body)
  have hM := meaning_same fuel hf ds r h
  rw [lf_scope_CheckRule_1, lf_constraintref15_CheckRule, heads_eq r h, goals_eq r h, vars_eq fuel hf r h, atomVarsS_eq _ _ ha hb, goalVars_eq _ _ hc hd]
  simp only [Option.bind_some]
  rw [appO_eq (by omega) (by omega), Option.bind_some, lf_scope_CheckRule_1_J0, wr_eq (by omega)]
  have hlen : ((r.f1_Keep ++ r.f2_Remove).length : Int) = (r.f1_Keep.length : Int) + (r.f2_Remove.length : Int) := by simp
  rw [hlen]
  by_cases h1 : (r.f1_Keep.length : Int) + (r.f2_Remove.length : Int) > 0
  · rw [decide_eq_true h1, cond_true, show ((r.f1_Keep.length : Int) + (r.f2_Remove.length : Int) == (0 : Int)) = false by simp only [beq_eq_false_iff_ne]; omega, cond_false]
    by_cases h2 : (r.f1_Keep.length : Int) + (r.f2_Remove.length : Int) ≤ 4
    · rw [decide_eq_true h2, cond_true, decide_eq_false (p := (r.f1_Keep.length : Int) + (r.f2_Remove.length : Int) > 4) (by omega), cond_false]
      by_cases h3 : (r.f3_Guard.length : Int) ≤ 12
      · rw [decide_eq_true h3, cond_true, decide_eq_false (p := (r.f3_Guard.length : Int) > 12) (by omega), cond_false]
        refine Rs.need (by decide) ?_ fun _ => ?_
        · by_cases h4 : (r.f4_Body.length : Int) ≤ 12
          · rw [decide_eq_true h4, decide_eq_false (by omega)]; rfl
          · rw [decide_eq_false h4, decide_eq_true (by omega)]; rfl
        · rw [r0_app, r1_app]
          refine (s9 _ ha fun q1 => s9 _ hb fun q2 => ?_ : Rs (lf_scope_CheckRule_1_L9 (lf_scope_CheckRule_1_L9 _ r.f2_Remove) r.f1_Keep) _)
          refine (s8 _ hc fun q3 => s8 _ hd fun q4 => ?_ : Rs (lf_scope_CheckRule_1_L8 (lf_scope_CheckRule_1_L8 _ r.f4_Body) r.f3_Guard) _)
          have nn : ∀ x ∈ vA (r.f1_Keep ++ r.f2_Remove) ++ vG (r.f3_Guard ++ r.f4_Body), 0 ≤ x := fun x hx => (List.mem_append.1 hx).elim
            (vA_nn _ (fun a ha => (List.mem_append.1 ha).elim (q1 a) (q2 a)) x) (vG_nn _ (fun a ha => (List.mem_append.1 ha).elim (q3 a) (q4 a)) x)
          refine (?_ : Rs (lf_scope_CheckRule_1_L2 _ _ ((0 : Nat) : Int)) _)
          rcases cr_vars _ _ 0 (by rw [List.length_append]; omega) nn with ⟨e, a, x, t, e2, e3⟩ | ⟨m, m1, e, e2⟩
          · rw [e, show ([] : List Int) = iot 0 0 from rfl, e2, rr_bad _ _ _ _ _ (by simpa using e3)]
            exact Rs.err (by decide)
          · rw [e, show ([] : List Int) = iot 0 0 from rfl, e2, rr_ok, iot_len]
            refine Rs.need (by decide) (by rfl) fun _ => ?_
            rw [lf_scope_CheckRule_1_J1]
            cases r.f0_Name.toList == (⟨#[]⟩ : ByteArray).toList with
            | true =>
              rw [cond_true, Bool.not_true, cond_false, bind_self]
              exact hM
            | false =>
              rw [cond_false, Bool.not_false, cond_true, x_isName_eq _ trivial, isNameR_eq _ hs, Option.bind_some, Option.bind_some]
              refine Rs.need (by decide) rfl fun _ => ?_
              rw [bind_self]
              exact hM
      · rw [decide_eq_false h3, cond_false, decide_eq_true (p := (r.f3_Guard.length : Int) > 12) (by omega), cond_true]
        exact Rs.err (by decide)
    · rw [decide_eq_false h2, cond_false, decide_eq_true (p := (r.f1_Keep.length : Int) + (r.f2_Remove.length : Int) > 4) (by omega), cond_true]
      exact Rs.err (by decide)
  · rw [decide_eq_false h1, cond_false, show ((r.f1_Keep.length : Int) + (r.f2_Remove.length : Int) == (0 : Int)) = true by simp only [beq_iff_eq]; omega, cond_true]
    exact Rs.err (by decide)
theorem rules_lf (fuel : Nat) (hf : 1048577 ≤ fuel) (ds : List S_api_Decl) (r : S_api_Rule) (hn : Nm r) (hs : r.f0_Name.size ≤ 9223372036854775807) : lf_constraintlaw15_ScopeRules fuel ds r = some true := by
  rw [lf_constraintlaw15_ScopeRules]
  obtain ⟨b, e1, e2⟩ := great_lf ⟨ds, [r]⟩ 400 (by omega) (fun x hx => by rw [List.mem_singleton.1 hx]; exact hn)
  rw [e1, Option.bind_some]
  cases b with
  | true => rfl
  | false =>
    obtain ⟨s, g1, g2, _⟩ := rule_same fuel hf ds r (e2 rfl r (List.mem_singleton.2 rfl)) hs
    rw [cond_false, lf_scope_CheckRule, g1, g2]
    simp only [Option.bind_some, beq_self_eq_true, cond_true, live15]
theorem gives_ScopeRules (ds : List S_api_Decl) (r : S_api_Rule) : Gives Try.prog 4 [.lst (ds.map enc_S_api_Decl), enc_S_api_Rule r] (.bool true) := fun w p vs hi hv => by
  have hv' := hv
  simp only [Repl] at hv'
  obtain ⟨_, _, _, _, v, _, _, h, _⟩ := hv'
  obtain ⟨_, hs⟩ := agg_mem h (.str r.f0_Name) (by simp)
  exact lg_constraintlaw15_ScopeRules 1048577 ds r true (rules_lf _ (Nat.le_refl _) ds r (nm_of h) (str_le hs)) w p vs hi hv
end Go.Proofs.Ytgndcnknmkcacaa
namespace Go.Proofs.Ytgndcnknmkcacaa
set_option maxRecDepth 100000
open Go.RowKit

def Rp (x : Option (Int ⊕ Unit)) (y : Option (Int × Int)) (K : Option (Int × Int)) : Prop := (∃ e, e ≠ 0 ∧ x = some (.inl e) ∧ y = some (-1, e)) ∨ (x = some (.inr ()) ∧ y = K)
theorem Rp.need {ok bad : Bool} {e : Int} {f : Unit → Option (Int ⊕ Unit)} {k K : Option (Int × Int)} (he : e ≠ 0) (hb : bad = !ok) (h : ok = true → Rp (f ()) k K) : Rp (bindX (lf_scope_need ok e) f) (bif bad then some (-1, e) else k) K := by
  subst hb
  cases ok with
  | true => exact h rfl
  | false => exact .inl ⟨e, he, rfl, rfl⟩
theorem dec_L0 {k : Option (Int ⊕ Unit)} {k' K : Option (Int × Int)} (hk : Rp k k' K) (p : S_api_Program) : ∀ (l : List S_api_Decl) (i : Nat) (m : List (S_api_Decl × Bool)), i + l.length ≤ 1000000 → m.length ≤ i → (∀ d ∈ l, d.f0_Name.size ≤ 9223372036854775807) → p.f0_Decls.drop i = l → (∀ d, (mget m d).getD false = decide (d ∈ p.f0_Decls.take i)) → Rp (lf_scope_Check_1_L0 k l m) (lf_constraintref15_Check_L0 k' p l i) K
  | [], i, m, _, _, _, _, _ => by rw [lf_scope_Check_1_L0, lf_constraintref15_Check_L0]; exact hk
  | q :: l, i, m, hb, hm, hs, hd, hg => by
    simp only [List.length_cons] at hb
    have hl := mput_len m q true
    have h1 : p.f0_Decls[i]? = some q := by
      have := congrArg (fun x => x[0]?) hd
      simpa using this
    have h2 : i < p.f0_Decls.length := (List.getElem?_eq_some_iff.1 h1).1
    have t1 : subO p.f0_Decls 0 (i : Int) = some (p.f0_Decls.take i) := by
      rw [subO, if_pos ⟨by omega, by omega, by omega⟩]
      simp
    have next : Rp (lf_scope_Check_1_L0 k l (mput m q true)) (lf_constraintref15_Check_L0 k' p l (i + 1)) K := by
      refine dec_L0 hk p l (i + 1) _ (by omega) (by omega) (fun d hd => hs d (List.mem_cons_of_mem _ hd)) ?_ fun d => ?_
      · have := congrArg List.tail hd
        simpa using this
      · rw [mget_mput, List.take_add_one, h1]
        by_cases hx : q = d
        · subst hx; simp
        · have hx' : ¬ d = q := fun e => hx e.symm
          rw [if_neg hx, hg d]
          simp [hx']
    rw [lf_scope_Check_1_L0, lf_constraintref15_Check_L0, x_isName_eq _ trivial, isNameR_eq _ (hs q (List.mem_cons_self ..)), Option.bind_some, Option.bind_some, t1, Option.bind_some, refDeclared_eq, Option.bind_some, mputO_eq _ _ _ (by omega)]
    refine Rp.need (by decide) rfl fun _ => ?_
    by_cases h3 : q.f1_Arity ≥ 0
    · rw [decide_eq_true h3, cond_true, decide_eq_false (p := q.f1_Arity < 0) (by omega), cond_false]
      refine Rp.need (by decide) ?_ fun _ => ?_
      · by_cases h : q.f1_Arity ≤ 6
        · rw [decide_eq_true h, decide_eq_false (by omega)]; rfl
        · rw [decide_eq_false h, decide_eq_true (by omega)]; rfl
      · refine Rp.need (by decide) ?_ fun _ => next
        rw [hg q, Bool.not_not]
    · rw [decide_eq_false h3, cond_false, decide_eq_true (p := q.f1_Arity < 0) (by omega), cond_true]
      exact .inl ⟨9, by decide, rfl, rfl⟩
theorem check1_same (p : S_api_Program) (K : Option (Int × Int)) (hs : ∀ d ∈ p.f0_Decls, d.f0_Name.size ≤ 9223372036854775807) : Rp (lf_scope_Check_1 p) (bif (decide ((p.f0_Decls.length : Int) > (30 : Int))) then some ((-1), 6) else (lf_constraintref15_Check_L0 (bif (decide ((p.f1_Rules.length : Int) > (40 : Int))) then some ((-1), 6) else K) p p.f0_Decls 0)) K := by
  rw [lf_scope_Check_1]
  refine Rp.need (by decide) ?_ fun h => ?_
  · by_cases h : (p.f0_Decls.length : Int) ≤ 30
    · rw [decide_eq_true h, decide_eq_false (by omega)]; rfl
    · rw [decide_eq_false h, decide_eq_true (by omega)]; rfl
  · have := of_decide_eq_true h
    refine dec_L0 (Rp.need (by decide) ?_ fun _ => .inr ⟨rfl, rfl⟩) p p.f0_Decls 0 [] (by omega) (by simp) hs rfl fun d => by simp [mget]
    by_cases h : (p.f1_Rules.length : Int) ≤ 40
    · rw [decide_eq_true h, decide_eq_false (by omega)]; rfl
    · rw [decide_eq_false h, decide_eq_true (by omega)]; rfl
theorem rules_same (fuel : Nat) (hf : 1048577 ≤ fuel) (p : S_api_Program) : ∀ (l : List S_api_Rule) (i : Nat), (∀ r ∈ l, Bd r ∧ r.f0_Name.size ≤ 9223372036854775807) → lf_scope_Check_L0 (some (0, 0)) p l i = lf_constraintref15_Check_L1 (some (0, 0)) fuel p l i
  | [], i, _ => by rw [lf_scope_Check_L0, lf_constraintref15_Check_L1]
  | r :: l, i, h => by
    have hr := h r (List.mem_cons_self ..)
    obtain ⟨s, g1, g2, _⟩ := rule_same fuel hf p.f0_Decls r hr.1 hr.2
    rw [lf_scope_Check_L0, lf_constraintref15_Check_L1, lf_scope_CheckRule, g1, g2]
    simp only [Option.bind_some]
    rw [rules_same fuel hf p l (i + 1) fun x hx => h x (List.mem_cons_of_mem _ hx)]
theorem programs_lf (fuel : Nat) (hf : 1048577 ≤ fuel) (p : S_api_Program) (hn : ∀ r ∈ p.f1_Rules, Nm r ∧ r.f0_Name.size ≤ 9223372036854775807) (hs : ∀ d ∈ p.f0_Decls, d.f0_Name.size ≤ 9223372036854775807) : lf_constraintlaw15_ScopePrograms fuel p = some true := by
  rw [lf_constraintlaw15_ScopePrograms]
  obtain ⟨b, e1, e2⟩ := great_lf p 300 (by omega) (fun x hx => (hn x hx).1)
  rw [e1, Option.bind_some]
  cases b with
  | true => rfl
  | false =>
    have hB := e2 rfl
    have hR := rules_same fuel hf p p.f1_Rules 0 fun r hr => ⟨hB r hr, (hn r hr).2⟩
    obtain ⟨v, hv, _⟩ := cl_tot p p.f1_Rules 0 hB
    rw [cond_false, lf_scope_Check, lf_constraintref15_Check]
    rcases check1_same p (lf_constraintref15_Check_L1 (some (0, 0)) fuel p p.f1_Rules 0) hs with ⟨e, he, g1, g2⟩ | ⟨g1, g2⟩
    · rw [g1, g2]
      simp only [Option.bind_some, caughtV]
      rw [show (e != 0) = true by simpa using he]
      simp only [cond_true, Option.bind_some, beq_self_eq_true, live15]
    · rw [g1, g2, ← hR]
      simp only [Option.bind_some, caughtV]
      rw [show ((0 : Int) != 0) = false from rfl, cond_false, hv]
      simp only [cond_true, Option.bind_some, beq_self_eq_true, live15]
theorem gives_ScopePrograms (q : S_api_Program) : Gives Try.prog 3 [enc_S_api_Program q] (.bool true) := fun w p vs hi hv => by
  have hv' := hv
  simp only [Repl] at hv'
  obtain ⟨v, _, _, h, _⟩ := hv'
  refine lg_constraintlaw15_ScopePrograms 1048577 q true (programs_lf _ (Nat.le_refl _) q (fun r hr => ⟨nmP_of h r hr, ?_⟩) fun d hd => ?_) w p vs hi hv
  · obtain ⟨_, h1⟩ := agg_mem h (.lst (q.f1_Rules.map enc_S_api_Rule)) (by simp)
    obtain ⟨_, h2⟩ := lst_mem h1 r hr
    obtain ⟨_, h3⟩ := agg_mem h2 (.str r.f0_Name) (by simp)
    exact str_le h3
  · obtain ⟨_, h1⟩ := agg_mem h (.lst (q.f0_Decls.map enc_S_api_Decl)) (by simp)
    obtain ⟨_, h2⟩ := lst_mem h1 d hd
    obtain ⟨_, h3⟩ := agg_mem h2 (.str d.f0_Name) (by simp)
    exact str_le h3
end Go.Proofs.Ytgndcnknmkcacaa
namespace Go.Proofs.Ytgndcnknmkcacaa.scopePrograms
set_option maxRecDepth 100000
open Go.ChangeShapes Go.WideShapes Go.ChangeAt Go.RowKit
set_option linter.unusedVariables false

theorem holds : Holds 3 Try.f3 :=
  holds_of [aProgram] (by rw [Try.params3]; rfl) fun es h => by
    match es, h with
    | [_], ⟨⟨p, rfl⟩, _⟩ => exact gives_ScopePrograms _

set_option maxRecDepth 100000 in
theorem lifted (os : Os) (started : os.Started) (H : Type) (enc : TypeId × Value → H) :
    ReturnsInHanded {} Try.checked os 3 .any (Rows.scopeProgramsSpec.pre6 enc Try.prog Try.f3 Rows.scopeProgramsRow.domain false) (Rows.scopeProgramsSpec.post enc Try.prog Try.f3 false true false false) := by
  refine returnsInHanded_of_change (C := Try.checked) own started (by kernel_rfl) Try.func3
    (ChangeSpec.witness6 (enc := enc) (C := Try.checked) false ⟨#[], #[.agg #[.slice none 0 0, .slice none 0 0]], []⟩ 8 (by kernel_rfl) (by kernel_rfl) (by kernel_rfl) (by kernel_rfl)) ?_
  intro W base args ds gs before hval hW _ _
  exact law_contract holds rfl (by kernel_rfl) rfl rfl (fun H ds h => by
    match ds, h with
    | [_], _ => rfl) W base args ds gs before hval hW

theorem over : Rows.scopeProgramsRow.holds Try.pinned (OpenSpec.ofChange Rows.scopeProgramsSpec) :=
  OpenClaim.holds_of_wide 3 Try.f3 rfl rfl rfl rfl rfl rfl rfl ⟨rfl, rfl, rfl, rfl, rfl⟩ rfl rfl rfl rfl rfl (by kernel_rfl) Try.func3 (by kernel_rfl)
    (of_decide_eq_true (by kernel_rfl)) (by unfold Func.isWrapper; first | (rw [if_pos (by decide +kernel)]; kernel_rfl) | (rw [if_neg (by decide +kernel)]; exact ⟨rfl, rfl⟩))
    (fun os started H enc _ => lifted os started H enc)

theorem proved : Rows.ScopeProgramsSaid :=
  over
#print axioms proved
end Go.Proofs.Ytgndcnknmkcacaa.scopePrograms
