/-
  Texts of the seat, merged.
-/
import Derived.Test.YtnldggbcfcibaaaLGA
import Derived.Test.YtnldggbcfcibaaaLGB
import Derived.Test.YtnldggbcfcibaaaLGC
import Derived.Test.YtnldggbcfcibaaaLGD
import Derived.Test.YtnldggbcfcibaaaLGE
import Derived.Test.YtnldggbcfcibaaaChecked
import Derived.WalkKit
import Derived.Lib.Hide
import Derived.Lib.AppendStr
import Derived.Deep.AppendLies
import Derived.Deep.AppendSrc
import Derived.Deep.Draws
import Derived.Deep.QuietTactic
import Derived.BigQuiet
import Derived.Deep.RegionWith
import Derived.Maps.AppendAt
import Derived.WalkSpells
import Derived.Orders
import Derived.Deep.Slices
import Derived.Deep.Fields
import Derived.ChangeArms
import Derived.Lib.OthersKept
import Derived.Lib.TrimU
import Derived.Lib.IndexAny
import Derived.Deep.LoopGhost
import Derived.Lib.Bytealg
import Derived.RangeFuncBox
import Derived.RangeFuncNested
import Derived.RangeFuncBound
import Derived.RangeFuncCalls
import Derived.RangeFuncLeaves
import Derived.Shelf.Abstract
import Derived.OwnWalkIn
import Derived.TacticsInMore
import Derived.LoopNIn
import Derived.LoopIn
import Derived.RangeFuncWrites
import Derived.Maps.OwnIn
import Derived.Maps.Views
import Derived.Laws.OwnMore
import Derived.Maps.OwnSet
import Derived.Test.YtnldggbcfcibaaaRows
import Derived.ProofKit
import Derived.OpenShut
import Derived.Carry
import Derived.OrdersIn
import Derived.Great.BuildSlice
import Derived.ArgAppend
import Derived.Laws.MakeOwn
import Derived.Laws.Cover3
import Derived.Laws.CopyRow
import Derived.MapKept
import Derived.Maps.RangeRun
import Derived.DeepKeys5
import Derived.WideKeyRuns
import Derived.RangeFuncOwn
import Derived.ChangeSlices
set_option linter.unusedVariables false
set_option linter.unusedSimpArgs false
set_option linter.unnecessarySimpa false
set_option linter.all false

namespace Go.Proofs.Ytnldggbcfcibaaa
set_option maxRecDepth 100000
open Go.RowKit

def TotP {α : Type} (x : Option α) (Q : α → Prop) : Prop := ∃ a, x = some a ∧ Q a
theorem TotP.pure {α : Type} {a : α} {Q : α → Prop} (h : Q a) : TotP (some a) Q := ⟨a, rfl, h⟩
theorem TotP.bind {α β : Type} {x : Option α} {R : α → Prop} {f : α → Option β} {Q : β → Prop} (h : TotP x R) (hf : ∀ a, R a → TotP (f a) Q) : TotP (x.bind f) Q := by
  obtain ⟨a, rfl, ha⟩ := h
  exact hf a ha
theorem TotP.cond {α : Type} {b : Bool} {x y : Option α} {Q : α → Prop} (h1 : b = true → TotP x Q) (h2 : b = false → TotP y Q) : TotP (bif b then x else y) Q := by
  cases b with
  | true => exact h1 rfl
  | false => exact h2 rfl
/-! ### weights -/
def wA : List At → Nat
  | [] => 0
  | a :: l => 1 + wtL a.ts + wA l
def wG : List Gl → Nat
  | [] => 0
  | a :: l => 1 + wtL a.ts + wG l
def NmA (l : List At) : Prop := ∀ a ∈ l, a.n.size ≤ 9223372036854775807
def NmG (l : List Gl) : Prop := ∀ a ∈ l, a.n.size ≤ 9223372036854775807
theorem wr_step (m : Int) (s : Nat) (h1 : 0 ≤ m) (h2 : m ≤ 1000) (hs : s ≤ 9223372036854775807) : wr ((wr (m - 1)) - (wr (Int.tdiv (s : Int) 8))) = m - 1 - ((s / 8 : Nat) : Int) := by
  have e : Int.tdiv (s : Int) 8 = ((s / 8 : Nat) : Int) := by
    rw [Int.tdiv_eq_ediv_of_nonneg (by omega)]
    rfl
  rw [e, wr_eq (n := m - 1) (by omega), wr_eq (n := ((s / 8 : Nat) : Int)) (by omega), wr_eq (by omega)]
theorem x_weigh_eq (ts : List T) (m : Int) (h1 : -9223372036854775808 ≤ m) (h2 : m ≤ 1000) : x_weigh ts m 64 = some (weighF 64 ts m) := by
  rw [x_weigh, if_pos ⟨⟨h1, by omega⟩, by omega, by omega⟩]
  rfl
theorem ga_lf (k : Int → Option Bool) : ∀ (l : List At) (m : Int), m ≤ 1000 → NmA l → ∃ r, lf_constraintref03_GreatAtoms_L0 k l m = k r ∧ (0 ≤ r → (wA l : Int) + r ≤ m)
  | [], m, _, _ => ⟨m, by rw [lf_constraintref03_GreatAtoms_L0], fun _ => by simp [wA]⟩
  | a :: l, m, hm, hn => by
    rw [lf_constraintref03_GreatAtoms_L0]
    by_cases h : m ≥ 0
    · have hs := hn a (List.mem_cons_self ..)
      rw [decide_eq_true h, cond_true, wr_step m _ h hm hs, x_weigh_eq _ _ (by omega) (by omega), Option.bind_some]
      have h1 := weighF_ge 64 a.ts (m - 1 - ((a.n.size / 8 : Nat) : Int))
      have h2 := weigh_wt 64 a.ts (m - 1 - ((a.n.size / 8 : Nat) : Int))
      obtain ⟨r, e1, e2⟩ := ga_lf k l (weighF 64 a.ts (m - 1 - ((a.n.size / 8 : Nat) : Int))) (by omega) fun x hx => hn x (List.mem_cons_of_mem _ hx)
      refine ⟨r, e1, fun hr => ?_⟩
      have := e2 hr
      simp only [wA]
      omega
    · rw [decide_eq_false h, cond_false]
      exact ⟨m, rfl, fun hr => absurd hr h⟩
theorem gg_lf (k : Int → Option Bool) : ∀ (l : List Gl) (m : Int), m ≤ 1000 → NmG l → ∃ r, lf_constraintref03_GreatGoals_L0 k l m = k r ∧ (0 ≤ r → (wG l : Int) + r ≤ m)
  | [], m, _, _ => ⟨m, by rw [lf_constraintref03_GreatGoals_L0], fun _ => by simp [wG]⟩
  | a :: l, m, hm, hn => by
    rw [lf_constraintref03_GreatGoals_L0]
    by_cases h : m ≥ 0
    · have hs := hn a (List.mem_cons_self ..)
      rw [decide_eq_true h, cond_true, wr_step m _ h hm hs, x_weigh_eq _ _ (by omega) (by omega), Option.bind_some]
      have h1 := weighF_ge 64 a.ts (m - 1 - ((a.n.size / 8 : Nat) : Int))
      have h2 := weigh_wt 64 a.ts (m - 1 - ((a.n.size / 8 : Nat) : Int))
      obtain ⟨r, e1, e2⟩ := gg_lf k l (weighF 64 a.ts (m - 1 - ((a.n.size / 8 : Nat) : Int))) (by omega) fun x hx => hn x (List.mem_cons_of_mem _ hx)
      refine ⟨r, e1, fun hr => ?_⟩
      have := e2 hr
      simp only [wG]
      omega
    · rw [decide_eq_false h, cond_false]
      exact ⟨m, rfl, fun hr => absurd hr h⟩
theorem greatA_lf (l : List At) (m : Int) (hm : m ≤ 1000) (hn : NmA l) : TotP (lf_constraintref03_GreatAtoms l m) fun b => b = false → (wA l : Int) ≤ m := by
  unfold lf_constraintref03_GreatAtoms
  obtain ⟨r, e1, e2⟩ := ga_lf (fun m => some (decide (m < 0))) l m hm hn
  rw [e1]
  refine ⟨_, rfl, fun h => ?_⟩
  have := of_decide_eq_false h
  have := e2 (by omega)
  omega
theorem greatG_lf (l : List Gl) (m : Int) (hm : m ≤ 1000) (hn : NmG l) : TotP (lf_constraintref03_GreatGoals l m) fun b => b = false → (wG l : Int) ≤ m := by
  unfold lf_constraintref03_GreatGoals
  obtain ⟨r, e1, e2⟩ := gg_lf (fun m => some (decide (m < 0))) l m hm hn
  rw [e1]
  refine ⟨_, rfl, fun h => ?_⟩
  have := of_decide_eq_false h
  have := e2 (by omega)
  omega
structure Nm (r : S_api_Rule) : Prop where
  a : NmA r.f1_Keep
  b : NmA r.f2_Remove
  c : NmG r.f3_Guard
  d : NmG r.f4_Body
structure Bd (r : S_api_Rule) : Prop where
  a : wA r.f1_Keep ≤ 1000
  b : wA r.f2_Remove ≤ 1000
  c : wG r.f3_Guard ≤ 1000
  d : wG r.f4_Body ≤ 1000
theorem greatR_L0 (k : Option Bool) (l0 : List S_api_Rule) (m : Int) (hm : m ≤ 1000) (kb : Bool) (hk : k = some kb) : ∀ l : List S_api_Rule, (∀ r ∈ l, Nm r) → TotP (lf_constraintref03_GreatRules_L0 k l0 m l) fun b => b = false → ∀ r ∈ l, Bd r
  | [], _ => by rw [lf_constraintref03_GreatRules_L0, hk]; exact ⟨_, rfl, fun _ r h => by cases h⟩
  | r :: l, hn => by
    have h := hn r (List.mem_cons_self ..)
    rw [lf_constraintref03_GreatRules_L0]
    refine .cond (fun _ => .pure fun h => by cases h) fun _ => ?_
    refine .cond (fun _ => .pure fun h => by cases h) fun _ => ?_
    refine .bind (greatA_lf _ m hm h.a) fun x hx => .cond (fun _ => .pure fun h => by cases h) fun h1 => ?_
    refine .bind (greatA_lf _ m hm h.b) fun y hy => .cond (fun _ => .pure fun h => by cases h) fun h2 => ?_
    refine .bind (greatG_lf _ m hm h.c) fun z hz => .cond (fun _ => .pure fun h => by cases h) fun h3 => ?_
    refine .bind (greatG_lf _ m hm h.d) fun u hu => .cond (fun _ => .pure fun h => by cases h) fun h4 => ?_
    obtain ⟨b, e1, e2⟩ := greatR_L0 k l0 m hm kb hk l fun x hx => hn x (List.mem_cons_of_mem _ hx)
    have := hx h1; have := hy h2; have := hz h3; have := hu h4
    exact ⟨b, e1, fun hb x hx => (List.mem_cons.1 hx).elim (fun e => e ▸ ⟨by omega, by omega, by omega, by omega⟩) (e2 hb x)⟩
theorem wA_mem {a : At} : ∀ {l : List At}, a ∈ l → wtL a.ts ≤ wA l
  | x :: l, h => by
    simp only [wA]
    rcases List.mem_cons.1 h with rfl | h
    · omega
    · have := wA_mem h; omega
theorem has_L0 (n : Int) : ∀ l : List Int, lf_constraintref03_has_L0 (some false) n l = some (decide (n ∈ l))
  | [] => by rw [lf_constraintref03_has_L0]; rfl
  | x :: l => by
    rw [lf_constraintref03_has_L0, has_L0 n l]
    by_cases h : x = n
    · subst h; simp
    · have h' : n ≠ x := fun e => h e.symm
      rw [beq_false_of_ne h]
      simp [h']
theorem has_lf (l : List Int) (n : Int) : lf_constraintref03_has l n = some (decide (n ∈ l)) := has_L0 n l
theorem refArgs_lf (t : T) : lf_constraintref03_args t = some t.used := by
  rw [lf_constraintref03_args, T.used]
  by_cases h : t.k = 2
  · rw [if_pos h, show (t.k == (2 : Int)) = true by simpa using h]; rfl
  · rw [if_neg h, show (t.k == (2 : Int)) = false by simpa using h]; rfl
theorem vars_L0 {rec : List Int → T → Option (List Int)} (k : List Int → Option (List Int)) : ∀ (ts : List T) (l : List Int) (m : Nat), (∀ t ∈ ts, ∀ l : List Int, l.length + wt t ≤ m → rec l t = some (uniq l (occT t))) → l.length + wtL ts ≤ m → lf_constraintref03_vars_s1_L0 k rec ts l = k (uniq l (occL ts))
  | [], l, m, _, _ => by rw [lf_constraintref03_vars_s1_L0]; simp [occL, uniq_nil]
  | t :: ts, l, m, h, hm => by
    simp only [wtL] at hm
    rw [lf_constraintref03_vars_s1_L0, h t (List.mem_cons_self ..) l (by omega)]
    simp only [Option.bind_some]
    have hl := uniq_len (occT t) l
    have ho := occ_wt t
    rw [vars_L0 k ts _ m (fun u hu => h u (List.mem_cons_of_mem _ hu)) (by omega), ← uniq_app]
    simp [occL]
theorem vars_lf : ∀ (fuel : Nat) (t : T) (l : List Int), wt t < fuel → l.length + wt t ≤ 1000000000 → lf_constraintref03_vars_s1 fuel l t = some (uniq l (occT t))
  | 0, _, _, h, _ => by omega
  | fuel + 1, t, l, h, hm => by
    rw [lf_constraintref03_vars_s1]
    have hwt := wt_eq t
    have key : ∀ l' : List Int, l'.length ≤ l.length + 1 → lf_constraintref03_vars_s1_L0 (fun l_9 => some l_9) (lf_constraintref03_vars_s1 fuel) t.used l' = some (uniq l' (occL t.used)) := fun l' hl' => by
      have hu := wtL_used t
      refine vars_L0 _ t.used l' (l'.length + wtL t.used) (fun u hu' l2 hl2 => vars_lf fuel u l2 ?_ ?_) (Nat.le_refl _)
      · have := wt_used hu'; omega
      · omega
    show lf_constraintref03_vars_s1_J0 _ _ _ = _
    unfold lf_constraintref03_vars_s1_J0
    rw [has_lf]
    simp only [Option.bind_some, refArgs_lf]
    by_cases hk : t.k = 1
    · rw [show (t.k == (1 : Int)) = true by simpa using hk]
      have hused : t.used = [] := by unfold T.used; rw [if_neg (by omega)]
      have hocc := occT_var hk
      simp only [cond_true]
      by_cases hx : t.i ∈ l
      · rw [decide_eq_true hx]
        simp only [Bool.not_true, cond_false]
        rw [key l (by omega), hocc, hused]
        simp [occL, uniq, addU, hx]
      · rw [decide_eq_false hx]
        simp only [Bool.not_false, cond_true]
        rw [appO_eq (by simp; omega) (by simp; omega)]
        simp only [Option.bind_some]
        rw [key _ (by simp), hocc, hused]
        simp [occL, uniq, addU, hx]
    · rw [show (t.k == (1 : Int)) = false by simpa using hk]
      simp only [cond_false]
      rw [key l (by omega), occT_eq hk]
theorem varsOf_L0 (fuel : Nat) (k : List Int → Option (List Int)) : ∀ (ts : List T) (l : List Int), wtL ts < fuel → l.length + wtL ts ≤ 1000000000 → lf_constraintref03_VarsOf_s1_L0 k fuel ts l = k (uniq l (occL ts))
  | [], l, _, _ => by rw [lf_constraintref03_VarsOf_s1_L0]; simp [occL, uniq_nil]
  | t :: ts, l, h, hm => by
    simp only [wtL] at h hm
    rw [lf_constraintref03_VarsOf_s1_L0, vars_lf fuel t l (by omega) (by omega)]
    simp only [Option.bind_some]
    have hl := uniq_len (occT t) l
    have ho := occ_wt t
    rw [varsOf_L0 fuel k ts _ (by omega) (by omega), ← uniq_app]
    simp [occL]
end Go.Proofs.Ytnldggbcfcibaaa


namespace Go.Proofs.Ytnldggbcfcibaaa
set_option maxRecDepth 100000
open Go.RowKit

def hd (r : S_api_Rule) : List At := r.f1_Keep ++ r.f2_Remove
theorem wA_len (l : List At) : l.length ≤ wA l := by
  induction l with
  | nil => simp [wA]
  | cons a l ih => simp only [wA, List.length_cons]; omega
theorem wG_len (l : List Gl) : l.length ≤ wG l := by
  induction l with
  | nil => simp [wG]
  | cons a l ih => simp only [wG, List.length_cons]; omega
theorem Bd.len {r : S_api_Rule} (h : Bd r) : r.f1_Keep.length ≤ 1000 ∧ r.f2_Remove.length ≤ 1000 := ⟨Nat.le_trans (wA_len _) h.a, Nat.le_trans (wA_len _) h.b⟩
theorem Bd.hd_len {r : S_api_Rule} (h : Bd r) : (hd r).length ≤ 2000 := by have := h.len; simp only [hd, List.length_append]; omega
theorem Bd.hd_wt {r : S_api_Rule} (h : Bd r) {a : At} (ha : a ∈ hd r) : wtL a.ts ≤ 1000 := by
  rcases List.mem_append.1 ha with ha | ha
  · exact Nat.le_trans (wA_mem ha) h.a
  · exact Nat.le_trans (wA_mem ha) h.b
theorem heads_lf {r : S_api_Rule} (h : Bd r) : lf_occur_Heads r = some (hd r) := by
  have hl := h.len
  rw [lf_occur_Heads, lf_occur_count, Option.bind_some, wr_eq (by omega)]
  rw [show makeO 40 ((r.f1_Keep.length : Int) + (r.f2_Remove.length : Int)) = some _ from if_pos ⟨by omega, by omega, by omega⟩, Option.bind_some]
  rw [appO_eq (by simp; omega) (by simp; omega), Option.bind_some, appO_eq (by simp; omega) (by simp; omega), Option.bind_some]
  rfl
theorem refHeads_lf {r : S_api_Rule} (h : Bd r) : lf_constraintref16_Heads r = some (hd r) := by
  have hl := h.len
  rw [lf_constraintref16_Heads]
  rw [appO_eq (by simp; omega) (by simp; omega), Option.bind_some, appO_eq (by simp; omega) (by simp; omega), Option.bind_some]
  rfl

/-! ### the occurrences -/
/-- The occurrences of a rule's heads, from the m-th down. -/
def dn (i : Nat) (r : S_api_Rule) (hs : List At) : Nat → List (S_api_Occ × At)
  | 0 => []
  | m + 1 => (match hs[m]? with
    | some h => [(⟨(i : Int), (m : Int), decide ((m : Int) < (r.f1_Keep.length : Int))⟩, h)]
    | none => []) ++ dn i r hs m
def trF : Nat → List S_api_Rule → List (S_api_Occ × At)
  | _, [] => []
  | i, r :: rs => dn i r (hd r) (hd r).length ++ trF (i + 1) rs
theorem dn_len (i : Nat) (r : S_api_Rule) (hs : List At) : ∀ m, (dn i r hs m).length ≤ m
  | 0 => by simp [dn]
  | m + 1 => by
    have := dn_len i r hs m
    simp only [dn, List.length_append]
    split <;> simp <;> omega
theorem trF_len : ∀ (l : List S_api_Rule) (i : Nat), (∀ r ∈ l, Bd r) → (trF i l).length ≤ 2000 * l.length
  | [], i, _ => by simp [trF]
  | r :: l, i, h => by
    have h1 := trF_len l (i + 1) fun x hx => h x (List.mem_cons_of_mem _ hx)
    have h2 := dn_len i r (hd r) (hd r).length
    have h3 := (h r (List.mem_cons_self ..)).hd_len
    simp only [trF, List.length_append, List.length_cons]
    omega
theorem eachL1_lf (k : List (S_api_Occ × At) → Option (List (S_api_Occ × At))) (i : Nat) (q : S_api_Rule) (hs : List At) : ∀ (m : Nat) (tr : List (S_api_Occ × At)), m ≤ hs.length → tr.length + m ≤ 100000000 → eachL1 k i q hs m tr = k (tr ++ dn i q hs m)
  | 0, tr, _, _ => by simp [eachL1, dn]
  | m + 1, tr, hm, hl => by
    have hlt : m < hs.length := hm
    rw [eachL1, getI_nat, List.getElem?_eq_getElem hlt, Option.bind_some, decide_eq_true (by omega), cond_true, eachL1_lf k i q hs m _ (by omega) (by simp; omega)]
    simp [dn, List.getElem?_eq_getElem hlt]
theorem eachL0_lf (k : List (S_api_Occ × At) → Option (List (S_api_Occ × At))) : ∀ (l : List S_api_Rule) (tr : List (S_api_Occ × At)) (i : Nat), (∀ r ∈ l, Bd r) → tr.length + 2000 * l.length ≤ 100000000 → eachL0 k l tr i = k (tr ++ trF i l)
  | [], tr, i, _, _ => by simp [eachL0, trF]
  | r :: l, tr, i, h, hl => by
    have hb := h r (List.mem_cons_self ..)
    have hl2 := hb.hd_len
    have h2 := dn_len i r (hd r) (hd r).length
    simp only [List.length_cons] at hl
    rw [eachL0, heads_lf hb, Option.bind_some, wr_eq (by omega)]
    rw [show downO (((hd r).length : Int) - 1) = some (hd r).length by rw [downO, if_pos (by omega)]; congr 1; omega, Option.bind_some]
    rw [eachL1_lf _ i r (hd r) _ tr (Nat.le_refl _) (by omega), eachL0_lf k l _ (i + 1) (fun x hx => h x (List.mem_cons_of_mem _ hx)) (by simp only [List.length_append]; omega)]
    simp [trF]
/-- A program within the bounds. -/
structure BdP (p : S_api_Program) : Prop where
  n : p.f1_Rules.length ≤ 20
  r : ∀ r ∈ p.f1_Rules, Bd r
theorem BdP.tr {p : S_api_Program} (h : BdP p) : (trF 0 p.f1_Rules).length ≤ 40000 := Nat.le_trans (trF_len _ _ h.r) (by have := h.n; omega)
theorem each_lf {p : S_api_Program} (h : BdP p) : eachO p = some (trF 0 p.f1_Rules) := by
  have := h.n
  rw [eachO, eachL0_lf _ _ _ _ h.r (by simp; omega)]
  rfl
/-- The occurrences of a constraint, with their rules. -/
noncomputable def ocF (p : S_api_Program) (name : ByteArray) (arity : Int) : List S_api_Occ := ((trF 0 p.f1_Rules).filter (isOf name arity)).map (·.1)
theorem ocF_len {p : S_api_Program} (h : BdP p) (name : ByteArray) (arity : Int) : (ocF p name arity).length ≤ 40000 := by
  have := h.tr
  unfold ocF
  rw [List.length_map]
  exact Nat.le_trans (List.length_filter_le _ _) this
theorem occOf_lf {p : S_api_Program} (h : BdP p) (name : ByteArray) (arity : Int) : x_occOf p name arity = some (ocF p name arity) := by
  have := h.tr
  rw [x_occOf, each_lf h, Option.bind_some, decide_eq_true (by omega)]
  rfl
theorem allL1_lf (k : List S_api_Occ → Option (List S_api_Occ)) (i : Nat) (q : S_api_Rule) (hs : List At) : ∀ (m : Nat) (out : List S_api_Occ), m ≤ hs.length → out.length + m ≤ 100000000 → lf_constraintref16_All_L1 k i q m out = k (out ++ (dn i q hs m).map (·.1))
  | 0, out, _, _ => by simp [lf_constraintref16_All_L1, dn]
  | m + 1, out, hm, hl => by
    have hlt : m < hs.length := hm
    rw [lf_constraintref16_All_L1, appO_eq (by simp; omega) (by simp; omega), Option.bind_some, allL1_lf k i q hs m _ (by omega) (by simp; omega)]
    simp [dn, List.getElem?_eq_getElem hlt]
theorem allL0_lf (k : List S_api_Occ → Option (List S_api_Occ)) : ∀ (l : List S_api_Rule) (out : List S_api_Occ) (i : Nat), (∀ r ∈ l, Bd r) → out.length + 2000 * l.length ≤ 100000000 → lf_constraintref16_All_L0 k l out i = k (out ++ (trF i l).map (·.1))
  | [], out, i, _, _ => by simp [lf_constraintref16_All_L0, trF]
  | r :: l, out, i, h, hl => by
    have hb := h r (List.mem_cons_self ..)
    have hl2 := hb.len
    have hl3 : (hd r).length = r.f1_Keep.length + r.f2_Remove.length := by simp [hd]
    have h2 := dn_len i r (hd r) (hd r).length
    simp only [List.length_cons] at hl
    rw [lf_constraintref16_All_L0, wr_eq (n := (r.f1_Keep.length : Int) + (r.f2_Remove.length : Int)) (by omega), wr_eq (by omega)]
    rw [show downO ((r.f1_Keep.length : Int) + (r.f2_Remove.length : Int) - 1) = some (hd r).length by rw [downO, if_pos (by omega)]; congr 1; omega, Option.bind_some]
    rw [allL1_lf _ i r (hd r) _ out (Nat.le_refl _) (by omega), allL0_lf k l _ (i + 1) (fun x hx => h x (List.mem_cons_of_mem _ hx)) (by simp only [List.length_append, List.length_map]; omega)]
    simp [trF]
def allF (p : S_api_Program) : List S_api_Occ := (trF 0 p.f1_Rules).map (·.1)
theorem all_lf {p : S_api_Program} (h : BdP p) : lf_constraintref16_All p = some (allF p) := by
  have := h.n
  rw [lf_constraintref16_All, allL0_lf _ _ _ _ h.r (by simp; omega)]
  rfl
/-- An occurrence names its rule and its head. -/
theorem dn_mem {i : Nat} {r : S_api_Rule} {hs : List At} {x : S_api_Occ × At} : ∀ {m : Nat}, x ∈ dn i r hs m → ∃ j : Nat, x.1 = ⟨(i : Int), (j : Int), decide ((j : Int) < (r.f1_Keep.length : Int))⟩ ∧ hs[j]? = some x.2
  | 0, h => by cases h
  | m + 1, h => by
    rw [dn] at h
    rcases List.mem_append.1 h with h | h
    · cases hm : hs[m]? with
      | none => rw [hm] at h; cases h
      | some y =>
        rw [hm] at h
        rw [List.mem_singleton.1 h]
        exact ⟨m, rfl, hm⟩
    · exact dn_mem h
theorem trF_mem {x : S_api_Occ × At} : ∀ {l : List S_api_Rule} {i : Nat}, x ∈ trF i l → ∃ (n j : Nat) (r : S_api_Rule), l[n]? = some r ∧ x.1 = ⟨((i + n : Nat) : Int), (j : Int), decide ((j : Int) < (r.f1_Keep.length : Int))⟩ ∧ (hd r)[j]? = some x.2
  | [], i, h => by cases h
  | r :: l, i, h => by
    rw [trF] at h
    rcases List.mem_append.1 h with h | h
    · obtain ⟨j, h1, h2⟩ := dn_mem h
      exact ⟨0, j, r, rfl, h1, h2⟩
    · obtain ⟨n, j, q, h1, h2, h3⟩ := trF_mem h
      exact ⟨n + 1, j, q, by simpa using h1, by rw [h2]; congr 1; congr 1; omega, h3⟩
theorem tr_at {p : S_api_Program} {x : S_api_Occ × At} (h : x ∈ trF 0 p.f1_Rules) : ∃ r, getI p.f1_Rules x.1.f0_Rule = some r ∧ r ∈ p.f1_Rules ∧ getI (hd r) x.1.f1_Head = some x.2 := by
  obtain ⟨n, j, r, h1, h2, h3⟩ := trF_mem h
  refine ⟨r, ?_, List.mem_of_getElem? h1, ?_⟩
  · rw [h2]
    show getI p.f1_Rules ((0 + n : Nat) : Int) = some r
    rw [Nat.zero_add, getI_nat]; exact h1
  · rw [h2]
    show getI (hd r) (j : Int) = some x.2
    rw [getI_nat]; exact h3
theorem refOfL0_lf {p : S_api_Program} (h : BdP p) (k : List S_api_Occ → Option (List S_api_Occ)) (name : ByteArray) (arity : Int) : ∀ (tr : List (S_api_Occ × At)) (out : List S_api_Occ), (∀ x ∈ tr, x ∈ trF 0 p.f1_Rules) → out.length + tr.length ≤ 100000000 →
    lf_constraintref16_Of_L0 k arity name p (tr.map (·.1)) out = k (out ++ (tr.filter (isOf name arity)).map (·.1))
  | [], out, _, _ => by simp [lf_constraintref16_Of_L0]
  | x :: tr, out, hx, hl => by
    obtain ⟨r, h1, h2, h3⟩ := tr_at (hx x (List.mem_cons_self ..))
    simp only [List.length_cons] at hl
    have ih := fun out hl => refOfL0_lf h k name arity tr out (fun y hy => hx y (List.mem_cons_of_mem _ hy)) hl
    rw [List.map_cons, lf_constraintref16_Of_L0, h1, Option.bind_some, refHeads_lf (h.r r h2), Option.bind_some, h3, Option.bind_some]
    cases hn : x.2.n.toList == name.toList with
    | false =>
      rw [cond_false, ih out (by omega)]
      simp [isOf, hn]
    | true =>
      rw [cond_true]
      cases ha : (x.2.ts.length : Int) == arity with
      | false =>
        rw [cond_false, ih out (by omega)]
        simp [isOf, ha]
      | true =>
        rw [cond_true, appO_eq (by simp; omega) (by simp; omega), Option.bind_some, ih _ (by simp; omega)]
        have : isOf name arity x = true := by unfold isOf; rw [hn, ha]; rfl
        simp [this]
theorem refOf_lf {p : S_api_Program} (h : BdP p) (name : ByteArray) (arity : Int) : lf_constraintref16_Of p name arity = some (ocF p name arity) := by
  have := h.tr
  rw [lf_constraintref16_Of, all_lf h, Option.bind_some, allF, refOfL0_lf h _ name arity _ [] (fun _ hx => hx) (by simp; omega)]
  rfl
/-- .. with their rules. -/
def ruF (p : S_api_Program) (o : S_api_Occ) : S_api_Rule := (getI p.f1_Rules o.f0_Rule).getD ⟨⟨#[]⟩, [], [], [], [], 0⟩
theorem oc_at {p : S_api_Program} {name : ByteArray} {arity : Int} {o : S_api_Occ} (h : o ∈ ocF p name arity) : getI p.f1_Rules o.f0_Rule = some (ruF p o) ∧ ruF p o ∈ p.f1_Rules := by
  obtain ⟨x, hx, rfl⟩ := List.mem_map.1 h
  obtain ⟨r, h1, h2, _⟩ := tr_at (List.mem_filter.1 hx).1
  rw [ruF, h1]
  exact ⟨rfl, h2⟩
theorem ofL0_lf (k : List S_stored_occurrence → Option (List S_stored_occurrence)) (p : S_api_Program) : ∀ (l : List S_api_Occ) (out : List S_stored_occurrence), (∀ o ∈ l, getI p.f1_Rules o.f0_Rule = some (ruF p o)) → out.length + l.length ≤ 1000000 →
    lf_stored_of_L0 k p l out = k (out ++ l.map fun o => ⟨o, ruF p o⟩)
  | [], out, _, _ => by simp [lf_stored_of_L0]
  | o :: l, out, h, hl => by
    simp only [List.length_cons] at hl
    rw [lf_stored_of_L0, h o (List.mem_cons_self ..), Option.bind_some, appO_eq (by simp; omega) (by simp; omega), Option.bind_some, ofL0_lf k p l _ (fun x hx => h x (List.mem_cons_of_mem _ hx)) (by simp; omega)]
    simp
noncomputable def sF (p : S_api_Program) (name : ByteArray) (arity : Int) : List S_stored_occurrence := (ocF p name arity).map fun o => ⟨o, ruF p o⟩
theorem of_lf {p : S_api_Program} (h : BdP p) (name : ByteArray) (arity : Int) : lf_stored_of p name arity = some (sF p name arity) := by
  have := ocF_len h name arity
  rw [lf_stored_of, occOf_lf h, Option.bind_some, ofL0_lf _ p _ [] (fun o ho => (oc_at ho).1) (by simp; omega)]
  rfl

/-! ### inert rules -/
/-- The body, with the variables that are taken. -/
noncomputable def inertF : List Int → List Gl → Bool
  | _, [] => true
  | tk, g :: l => if rightG g = false then false else if g.op = 1 then inertF tk l else if g.op ≠ 4 then false else match g.ts with
    | [] => false
    | t :: _ => if t.k ≠ 1 then false else if t.i ∈ tk then false else inertF (tk ++ [t.i]) l
theorem inertF_congr : ∀ (l : List Gl) (a b : List Int), (∀ v, v ∈ a ↔ v ∈ b) → inertF a l = inertF b l
  | [], _, _, _ => rfl
  | g :: l, a, b, h => by
    have ih := fun a b h => inertF_congr l a b h
    simp only [inertF]
    rw [ih a b h]
    cases g.ts with
    | nil => rfl
    | cons t ts =>
      simp only [h t.i]
      rw [ih (a ++ [t.i]) (b ++ [t.i]) fun v => by simp [h v]]
theorem goal4 {g : Gl} (h : rightG g = true) (h4 : g.op = 4) : ∃ t u, g.ts = [t, u] := by
  unfold rightG at h
  rw [if_neg (by omega)] at h
  simp only [Bool.and_eq_true, decide_eq_true_eq] at h
  have h2 := h.1.2
  rw [h4] at h2
  have hl : g.ts.length = 2 := by
    have : arityG 4 = 2 := by decide
    omega
  match hts : g.ts, hl with
  | [t, u], _ => exact ⟨t, u, rfl⟩
/-- The variables that a map holds. -/
def keys (m : List (Int × Unit)) : List Int := m.map (·.1)
theorem mget_keys : ∀ (m : List (Int × Unit)) (v : Int), (mget m v).isSome = decide (v ∈ keys m)
  | [], v => by simp [mget, keys]
  | q :: m, v => by
    have ih := mget_keys m v
    rw [mget]
    by_cases h : q.1 = v
    · rw [if_pos h]; simp [keys, h]
    · rw [if_neg h, ih]
      have h' : v ≠ q.1 := fun e => h e.symm
      exact decide_eq_decide.2 (by simp only [keys, List.map_cons, List.mem_cons, h', false_or])
theorem keys_mput (m : List (Int × Unit)) (v x : Int) : x ∈ keys (mput m v ()) ↔ x ∈ keys m ∨ x = v := by
  have h1 := mget_keys (mput m v ()) x
  have h2 := mget_keys m x
  rw [mget_mput] at h1
  by_cases hx : v = x
  · rw [if_pos hx] at h1
    have : x ∈ keys (mput m v ()) := by simpa using h1.symm
    subst hx
    exact ⟨fun _ => .inr rfl, fun _ => this⟩
  · rw [if_neg hx, h2] at h1
    have hx' : x ≠ v := fun e => hx e.symm
    simp only [hx', or_false]
    by_cases hk : x ∈ keys m
    · rw [decide_eq_true hk] at h1
      exact ⟨fun _ => hk, fun _ => of_decide_eq_true h1.symm⟩
    · rw [decide_eq_false hk] at h1
      exact ⟨fun h => absurd h (of_decide_eq_false h1.symm), fun h => absurd h hk⟩
theorem put_lf (v : Int) (m : List (Int × Unit)) (h : m.length ≤ 1000000000) : lf_stored_variables_put_s1 v m = some (if v ∈ keys m then (false, m) else (true, mput m v ())) := by
  rw [lf_stored_variables_put_s1, mget_keys]
  by_cases hv : v ∈ keys m
  · rw [decide_eq_true hv, cond_true, if_pos hv]
  · rw [decide_eq_false hv, cond_false, if_neg hv, show mputO m v () = some (mput m v ()) from if_pos (by omega)]
    rfl
theorem inertL1_lf : ∀ (l : List Gl) (m : List (Int × Unit)) (tk : List Int), wG l ≤ 1000 → m.length + l.length ≤ 100000000 → (∀ v, v ∈ keys m ↔ v ∈ tk) → lf_stored_Inert_L1 (some true) l m = some (inertF tk l)
  | [], m, tk, _, _, _ => by rw [lf_stored_Inert_L1, inertF]
  | g :: l, m, tk, hw, hl, hk => by
    simp only [wG] at hw
    simp only [List.length_cons] at hl
    have ih := fun m tk hl hk => inertL1_lf l m tk (by omega) hl hk
    rw [lf_stored_Inert_L1, x_rightG_eq g (by omega), Option.bind_some, inertF]
    cases hr : rightG g with
    | false => simp
    | true =>
      simp only [Bool.not_true, cond_false, Bool.true_eq_false, if_false]
      by_cases h1 : g.op = 1
      · rw [if_pos h1, show (g.op == (1 : Int)) = true by simpa using h1, cond_true, ih m tk (by omega) hk]
      · rw [if_neg h1, show (g.op == (1 : Int)) = false by simpa using h1, cond_false]
        by_cases h4 : g.op = 4
        · obtain ⟨t, u, hts⟩ := goal4 hr h4
          rw [if_neg (by simpa using h4), show (g.op != (4 : Int)) = false by simpa using h4, cond_false, hts]
          rw [show getI [t, u] 0 = some t from rfl, Option.bind_some]
          simp only []
          by_cases ht : t.k = 1
          · rw [if_neg (by simpa using ht), show (t.k != (1 : Int)) = false by simpa using ht, cond_false, put_lf _ _ (by omega), Option.bind_some]
            by_cases hv : t.i ∈ tk
            · rw [if_pos ((hk _).2 hv), if_pos hv]
              rfl
            · rw [if_neg (fun h => hv ((hk _).1 h)), if_neg hv]
              have := mput_len m t.i ()
              simp only [Bool.not_true, cond_false]
              exact ih _ _ (by omega) fun v => by rw [keys_mput, hk v]; simp
          · rw [if_pos (by simpa using ht), show (t.k != (1 : Int)) = true by simpa using ht, cond_true]
        · rw [if_pos (by simpa using h4), show (g.op != (4 : Int)) = true by simpa using h4, cond_true]
theorem inertL2_lf (k : List (Int × Unit) → Option Bool) : ∀ (vs : List Int) (m : List (Int × Unit)), m.length + vs.length ≤ 100000000 → ∃ m', lf_stored_Inert_L2 k vs m = k m' ∧ m'.length ≤ m.length + vs.length ∧ ∀ v, v ∈ keys m' ↔ v ∈ keys m ∨ v ∈ vs
  | [], m, _ => ⟨m, by rw [lf_stored_Inert_L2], by simp, by simp⟩
  | x :: vs, m, h => by
    simp only [List.length_cons] at h
    rw [lf_stored_Inert_L2, put_lf _ _ (by omega), Option.bind_some]
    by_cases hx : x ∈ keys m
    · rw [if_pos hx]
      obtain ⟨m', h1, h2, h3⟩ := inertL2_lf k vs m (by omega)
      refine ⟨m', h1, by simp only [List.length_cons]; omega, fun v => ?_⟩
      rw [h3 v]
      constructor
      · rintro (h | h)
        · exact .inl h
        · exact .inr (List.mem_cons_of_mem _ h)
      · rintro (h | h)
        · exact .inl h
        · rcases List.mem_cons.1 h with rfl | h
          · exact .inl hx
          · exact .inr h
    · rw [if_neg hx]
      have hm := mput_len m x ()
      obtain ⟨m', h1, h2, h3⟩ := inertL2_lf k vs (mput m x ()) (by omega)
      refine ⟨m', h1, by simp only [List.length_cons]; omega, fun v => ?_⟩
      rw [h3 v, keys_mput]
      simp [or_assoc]
theorem inertL0_lf (k : List (Int × Unit) → Option Bool) : ∀ (l : List At) (m : List (Int × Unit)), (∀ a ∈ l, wtL a.ts ≤ 1000) → m.length + 1000 * l.length ≤ 100000000 → ∃ m', lf_stored_Inert_L0 k l m = k m' ∧ m'.length ≤ m.length + 1000 * l.length ∧ ∀ v, v ∈ keys m' ↔ v ∈ keys m ∨ v ∈ occL (l.flatMap (·.ts))
  | [], m, _, _ => ⟨m, by rw [lf_stored_Inert_L0], by simp, by simp [occL]⟩
  | a :: l, m, hw, hl => by
    have ha := hw a (List.mem_cons_self ..)
    simp only [List.length_cons] at hl
    have hu := uniq_len (occL a.ts) []
    have ho := occL_wt a.ts
    simp only [List.length_nil] at hu
    rw [lf_stored_Inert_L0, x_varsA_eq a (by omega), Option.bind_some]
    obtain ⟨m1, h1, h2, h3⟩ := inertL2_lf (fun mm_23 => lf_stored_Inert_L0 k l mm_23) (uniq [] (occL a.ts)) m (by omega)
    rw [h1]
    obtain ⟨m2, e1, e2, e3⟩ := inertL0_lf k l m1 (fun x hx => hw x (List.mem_cons_of_mem _ hx)) (by omega)
    refine ⟨m2, e1, by simp only [List.length_cons]; omega, fun v => ?_⟩
    rw [e3 v, h3 v, mem_uniq, List.flatMap_cons, occL_app]
    simp [or_assoc]
/-- Inert rules. -/
noncomputable def inr (r : S_api_Rule) : Bool := inertF (occL ((hd r).flatMap (·.ts))) r.f4_Body
theorem inert_lf {r : S_api_Rule} (h : Bd r) : lf_stored_Inert r = some (inr r) := by
  have hh := h.hd_len
  have hb : r.f4_Body.length ≤ 1000 := Nat.le_trans (wG_len _) h.d
  rw [lf_stored_Inert, heads_lf h, Option.bind_some]
  obtain ⟨m, h1, h2, h3⟩ := inertL0_lf (fun mm_5 => lf_stored_Inert_L1 (some true) r.f4_Body mm_5) (hd r) [] (fun a ha => h.hd_wt ha) (by simp; omega)
  rw [h1]
  simp only [List.length_nil] at h2
  exact inertL1_lf _ _ _ h.d (by omega) fun v => by rw [h3 v]; simp [keys]
/-! ### .. of the reference -/
theorem hasR_L0 (n : Int) : ∀ l : List Int, lf_constraintref31_has_L0 (some false) n l = some (decide (n ∈ l))
  | [] => by rw [lf_constraintref31_has_L0]; rfl
  | x :: l => by
    rw [lf_constraintref31_has_L0, hasR_L0 n l]
    by_cases h : x = n
    · subst h; simp
    · have h' : n ≠ x := fun e => h e.symm
      rw [beq_false_of_ne h]
      simp [h']
theorem hasR_lf (l : List Int) (n : Int) : lf_constraintref31_has l n = some (decide (n ∈ l)) := hasR_L0 n l
theorem headVarsL0_lf (k : List T → Option (List Int)) : ∀ (l : List At) (out : List T), (∀ a ∈ l, wtL a.ts ≤ 1000) → out.length + 1000 * l.length ≤ 100000000 → lf_constraintref31_headVars_s1_L0 k l out = k (out ++ l.flatMap (·.ts))
  | [], out, _, _ => by simp [lf_constraintref31_headVars_s1_L0]
  | a :: l, out, hw, hl => by
    have ha := hw a (List.mem_cons_self ..)
    have hla := len_wtL a.ts
    simp only [List.length_cons] at hl
    rw [lf_constraintref31_headVars_s1_L0, appO_eq (by omega) (by omega), Option.bind_some, headVarsL0_lf k l _ (fun x hx => hw x (List.mem_cons_of_mem _ hx)) (by simp only [List.length_append]; omega)]
    simp
theorem wtL_flat : ∀ (l : List At), (∀ a ∈ l, wtL a.ts ≤ 1000) → wtL (l.flatMap (·.ts)) ≤ 1000 * l.length
  | [], _ => by simp [wtL]
  | a :: l, h => by
    have := wtL_flat l fun x hx => h x (List.mem_cons_of_mem _ hx)
    have ha := h a (List.mem_cons_self ..)
    rw [List.flatMap_cons, wtL_app, List.length_cons]
    omega
theorem headVars_lf (fuel : Nat) (hf : 3000000 ≤ fuel) {r : S_api_Rule} (h : Bd r) : lf_constraintref31_headVars_s1 fuel r = some (uniq [] (occL ((hd r).flatMap (·.ts)))) := by
  have hh := h.hd_len
  have hw := wtL_flat (hd r) fun a ha => h.hd_wt ha
  rw [lf_constraintref31_headVars_s1, refHeads_lf h, Option.bind_some, headVarsL0_lf _ _ _ (fun a ha => h.hd_wt ha) (by simp; omega), List.nil_append]
  rw [lf_constraintref03_VarsOf_s1, varsOf_L0 _ _ _ _ (by omega) (by simp; omega)]
  rfl
theorem refInertL0_lf : ∀ (l : List Gl) (tk : List Int), wG l ≤ 1000 → tk.length + l.length ≤ 100000000 → lf_constraintref31_Inert_L0 (some true) l tk = some (inertF tk l)
  | [], tk, _, _ => by rw [lf_constraintref31_Inert_L0, inertF]
  | g :: l, tk, hw, hl => by
    simp only [wG] at hw
    simp only [List.length_cons] at hl
    have ih := fun tk hl => refInertL0_lf l tk (by omega) hl
    rw [lf_constraintref31_Inert_L0, x_rightG_eq g (by omega), Option.bind_some, inertF]
    cases hr : rightG g with
    | false => simp
    | true =>
      simp only [Bool.not_true, cond_false, Bool.true_eq_false, if_false]
      by_cases h1 : g.op = 1
      · rw [if_pos h1, show (g.op != (1 : Int)) = false by simpa using h1, cond_false, show (g.op == (1 : Int)) = true by simpa using h1, cond_true, ih tk (by omega)]
      · rw [if_neg h1, show (g.op != (1 : Int)) = true by simpa using h1, cond_true, show (g.op == (1 : Int)) = false by simpa using h1, cond_false]
        by_cases h4 : g.op = 4
        · obtain ⟨t, u, hts⟩ := goal4 hr h4
          rw [if_neg (by simpa using h4), show (g.op != (4 : Int)) = false by simpa using h4, cond_false, hts]
          rw [show getI [t, u] 0 = some t from rfl, Option.bind_some]
          simp only []
          by_cases ht : t.k = 1
          · rw [if_neg (by simpa using ht), show (t.k != (1 : Int)) = false by simpa using ht, cond_false, hasR_lf, Option.bind_some]
            by_cases hv : t.i ∈ tk
            · rw [if_pos hv, decide_eq_true hv, cond_true]
            · rw [if_neg hv, decide_eq_false hv, cond_false, appO_eq (by simp; omega) (by simp; omega), Option.bind_some]
              exact ih _ (by simp; omega)
          · rw [if_pos (by simpa using ht), show (t.k != (1 : Int)) = true by simpa using ht, cond_true]
        · rw [if_pos (by simpa using h4), show (g.op != (4 : Int)) = true by simpa using h4, cond_true]
theorem refInert_lf (fuel : Nat) (hf : 3000000 ≤ fuel) {r : S_api_Rule} (h : Bd r) : lf_constraintref31_Inert fuel r = some (inr r) := by
  have hh := h.hd_len
  have hw := wtL_flat (hd r) fun a ha => h.hd_wt ha
  have hb : r.f4_Body.length ≤ 1000 := Nat.le_trans (wG_len _) h.d
  have hu := uniq_len (occL ((hd r).flatMap (·.ts))) []
  have ho := occL_wt ((hd r).flatMap (·.ts))
  simp only [List.length_nil] at hu
  rw [lf_constraintref31_Inert, headVars_lf fuel hf h, Option.bind_some, refInertL0_lf _ _ h.d (by omega)]
  exact congrArg some (inertF_congr _ _ _ fun v => by rw [mem_uniq]; simp)
end Go.Proofs.Ytnldggbcfcibaaa


namespace Go.Proofs.Ytnldggbcfcibaaa
set_option maxRecDepth 100000
open Go.RowKit

set_option maxRecDepth 100000 in
theorem live31 : lf_constraintlaw31_exampleHolds = some true := by
  kernel_rfl

/-! ### certain -/
def distF : List Int → List T → Bool
  | _, [] => true
  | sn, t :: ts => if t.k ≠ 1 then false else if t.i ∈ sn then false else distF (sn ++ [t.i]) ts
theorem dist_lf : ∀ (ts : List T) (i : Nat) (m : List (Int × Unit)) (sn : List Int), m.length + ts.length ≤ 100000000 → (∀ v, v ∈ keys m ↔ v ∈ sn) → ∃ r, lf_slices_IndexFunc_s5_L0 (fun mm_3 => some ((-1), mm_3)) ts i m = some r ∧ decide (r.1 ≥ (0 : Int)) = !distF sn ts
  | [], i, m, sn, _, _ => ⟨(-1, m), by rw [lf_slices_IndexFunc_s5_L0], by simp [distF]⟩
  | t :: ts, i, m, sn, hl, hk => by
    simp only [List.length_cons] at hl
    rw [lf_slices_IndexFunc_s5_L0, lf_stored_occurrence_certain_1_s1, distF]
    by_cases ht : t.k = 1
    · rw [if_neg (by simpa using ht), show (t.k != (1 : Int)) = false by simpa using ht, cond_false, put_lf _ _ (by omega), Option.bind_some]
      by_cases hv : t.i ∈ sn
      · rw [if_pos ((hk _).2 hv), if_pos hv]
        refine ⟨_, rfl, ?_⟩
        rw [decide_eq_true (by omega)]
        rfl
      · rw [if_neg (fun h => hv ((hk _).1 h)), if_neg hv]
        have := mput_len m t.i ()
        obtain ⟨r, h1, h2⟩ := dist_lf ts (i + 1) (mput m t.i ()) (sn ++ [t.i]) (by omega) fun v => by rw [keys_mput, hk v]; simp
        exact ⟨r, h1, h2⟩
    · rw [if_pos (by simpa using ht), show (t.k != (1 : Int)) = true by simpa using ht, cond_true, Option.bind_some, cond_true]
      refine ⟨_, rfl, ?_⟩
      rw [decide_eq_true (by omega)]
      rfl
theorem refDist_lf : ∀ (ts : List T) (sn : List Int), sn.length + ts.length ≤ 100000000 → lf_constraintref31_certain_L0 (some true) ts sn = some (distF sn ts)
  | [], sn, _ => by rw [lf_constraintref31_certain_L0, distF]
  | t :: ts, sn, hl => by
    simp only [List.length_cons] at hl
    rw [lf_constraintref31_certain_L0, distF]
    by_cases ht : t.k = 1
    · rw [if_neg (by simpa using ht), show (t.k != (1 : Int)) = false by simpa using ht, cond_false, hasR_lf, Option.bind_some]
      by_cases hv : t.i ∈ sn
      · rw [decide_eq_true hv, if_pos hv, cond_true]
      · rw [decide_eq_false hv, if_neg hv, cond_false, appO_eq (by simp; omega) (by simp; omega), Option.bind_some]
        exact refDist_lf ts _ (by simp; omega)
    · rw [if_pos (by simpa using ht), show (t.k != (1 : Int)) = true by simpa using ht, cond_true]
/-- An occurrence whose rule is certain. -/
def certF (o : S_api_Occ) (r : S_api_Rule) : Bool := if o.f2_Kept = true then false else if 0 < r.f3_Guard.length then false else match hd r with
  | [a] => distF [] a.ts
  | _ => false
theorem certain_lf {o : S_api_Occ} {r : S_api_Rule} (h : Bd r) : lf_stored_occurrence_certain ⟨o, r⟩ = some (certF o r) := by
  rw [lf_stored_occurrence_certain, certF]
  cases hk : o.f2_Kept with
  | true => simp
  | false =>
    simp only [cond_false, Bool.false_eq_true, if_false]
    by_cases hg : 0 < r.f3_Guard.length
    · rw [if_pos hg, decide_eq_true (by omega), cond_true]
    · rw [if_neg hg, decide_eq_false (by omega), cond_false, heads_lf h, Option.bind_some]
      have hw := fun a ha => h.hd_wt (a := a) ha
      match hd r, hw with
      | [], _ => rfl
      | [a], hw =>
        have ha := hw a (by simp)
        have hla := len_wtL a.ts
        simp only [List.length_singleton]
        rw [show ((((1 : Nat) : Int)) != (1 : Int)) = false from rfl, cond_false, show getI [a] 0 = some a from rfl, Option.bind_some]
        obtain ⟨q, h1, h2⟩ := dist_lf a.ts 0 [] [] (by simp; omega) fun v => by simp [keys]
        rw [lf_slices_ContainsFunc_s4, lf_slices_IndexFunc_s5, h1, Option.bind_some, Option.bind_some, h2, Bool.not_not]
      | a :: b :: l, _ =>
        simp only [List.length_cons]
        rw [show (((l.length + 1 + 1 : Nat) : Int) != (1 : Int)) = true by simp; omega, cond_true]
theorem refCertain_lf {p : S_api_Program} {o : S_api_Occ} {r : S_api_Rule} (ho : getI p.f1_Rules o.f0_Rule = some r) (h : Bd r) : lf_constraintref31_certain p o = some (certF o r) := by
  rw [lf_constraintref31_certain, ho, Option.bind_some, refHeads_lf h, Option.bind_some, certF]
  have hw := fun a ha => h.hd_wt (a := a) ha
  match hd r, hw with
  | [], _ =>
    rw [show ((([] : List At).length : Int) != (1 : Int)) = true from rfl, cond_true]
    split <;> (try rfl)
    split <;> rfl
  | a :: b :: l, _ =>
    simp only [List.length_cons]
    rw [show (((l.length + 1 + 1 : Nat) : Int) != (1 : Int)) = true by simp; omega, cond_true]
    split <;> (try rfl)
    split <;> rfl
  | [a], hw =>
    have ha := hw a (by simp)
    have hla := len_wtL a.ts
    simp only [List.length_singleton]
    rw [show ((((1 : Nat) : Int)) != (1 : Int)) = false from rfl, cond_false]
    cases hk : o.f2_Kept with
    | true => simp
    | false =>
      simp only [cond_false, Bool.false_eq_true, if_false]
      by_cases hg : 0 < r.f3_Guard.length
      · rw [if_pos hg, decide_eq_true (by omega), cond_true]
      · rw [if_neg hg, decide_eq_false (by omega), cond_false, show getI [a] 0 = some a from rfl, Option.bind_some, refDist_lf _ _ (by simp; omega)]

/-! ### Never, Late -/
/-- The constraint is observed at the occurrence. -/
noncomputable def obs (x : S_stored_occurrence) : Bool := x.f0_Occ.f2_Kept && !inr x.f1_rule
noncomputable def nevF : List S_stored_occurrence → Bool
  | [] => false
  | x :: l => if certF x.f0_Occ x.f1_rule = true then true else if obs x = true then false else nevF l
noncomputable def latF : List S_stored_occurrence → Nat
  | [] => 0
  | x :: l => if obs x = true then 0 else latF l + 1
theorem lat_le : ∀ l, latF l ≤ l.length
  | [] => by simp [latF]
  | x :: l => by
    have := lat_le l
    rw [latF]
    split <;> simp <;> omega
theorem silent_lf {x : S_stored_occurrence} (h : Bd x.f1_rule) : lf_stored_occurrence_silent x = some (!obs x) := by
  rw [lf_stored_occurrence_silent, inert_lf h, Option.bind_some, obs]
  cases x.f0_Occ.f2_Kept <;> simp
theorem neverL0_lf : ∀ (l : List S_stored_occurrence), (∀ x ∈ l, Bd x.f1_rule) → lf_stored_Never_L0 (some false) l = some (nevF l)
  | [], _ => by rw [lf_stored_Never_L0, nevF]
  | x :: l, h => by
    have hx := h x (List.mem_cons_self ..)
    rw [lf_stored_Never_L0, show lf_stored_occurrence_certain x = some (certF x.f0_Occ x.f1_rule) from certain_lf hx, Option.bind_some, silent_lf hx, Option.bind_some, neverL0_lf l fun y hy => h y (List.mem_cons_of_mem _ hy), nevF, Bool.not_not]
    cases certF x.f0_Occ x.f1_rule <;> cases obs x <;> rfl
theorem lateL0_lf : ∀ (l : List S_stored_occurrence) (i : Nat), (∀ x ∈ l, Bd x.f1_rule) → lf_slices_IndexFunc_s6_L0 (some (-1)) l i = some (if latF l < l.length then ((i + latF l : Nat) : Int) else -1)
  | [], i, _ => by rw [lf_slices_IndexFunc_s6_L0]; simp [latF]
  | x :: l, i, h => by
    have hx := h x (List.mem_cons_self ..)
    rw [lf_slices_IndexFunc_s6_L0, lf_stored_Late_1, silent_lf hx, Option.bind_some, Option.bind_some, Bool.not_not, lateL0_lf l _ fun y hy => h y (List.mem_cons_of_mem _ hy), latF]
    cases obs x with
    | true => simp
    | false =>
      simp only [cond_false, Bool.false_eq_true, if_false, List.length_cons, Nat.add_lt_add_iff_right]
      split <;> (try rfl)
      congr 1
      omega
theorem sF_bd {p : S_api_Program} (h : BdP p) {name : ByteArray} {arity : Int} : ∀ x ∈ sF p name arity, Bd x.f1_rule := fun x hx => by
  obtain ⟨o, ho, rfl⟩ := List.mem_map.1 hx
  exact h.r _ (oc_at ho).2
theorem never_lf {p : S_api_Program} (h : BdP p) (name : ByteArray) (arity : Int) : lf_stored_Never p name arity = some (nevF (sF p name arity)) := by
  rw [lf_stored_Never, of_lf h, Option.bind_some, neverL0_lf _ (sF_bd h)]
theorem late_lf {p : S_api_Program} (h : BdP p) (name : ByteArray) (arity : Int) : lf_stored_Late p name arity = some (latF (sF p name arity) : Int) := by
  have := lat_le (sF p name arity)
  rw [lf_stored_Late, of_lf h, Option.bind_some, lf_slices_IndexFunc_s6, lateL0_lf _ _ (sF_bd h), Option.bind_some]
  by_cases hl : latF (sF p name arity) < (sF p name arity).length
  · rw [if_pos hl, decide_eq_false (by omega), cond_false]
    simp
  · rw [if_neg hl, show decide ((-1 : Int) < 0) = true from rfl, cond_true]
    congr 1
    omega
theorem refNeverL0_lf (fuel : Nat) (hf : 3000000 ≤ fuel) {p : S_api_Program} (h : BdP p) : ∀ (l : List S_api_Occ), (∀ o ∈ l, getI p.f1_Rules o.f0_Rule = some (ruF p o) ∧ ruF p o ∈ p.f1_Rules) → lf_constraintref31_Never_L0 (some false) fuel p l = some (nevF (l.map fun o => ⟨o, ruF p o⟩))
  | [], _ => by rw [lf_constraintref31_Never_L0]; rfl
  | o :: l, ho => by
    obtain ⟨h1, h2⟩ := ho o (List.mem_cons_self ..)
    have ih := refNeverL0_lf fuel hf h l fun y hy => ho y (List.mem_cons_of_mem _ hy)
    rw [lf_constraintref31_Never_L0, refCertain_lf h1 (h.r _ h2), Option.bind_some, ih, h1, Option.bind_some, refInert_lf fuel hf (h.r _ h2), Option.bind_some, List.map_cons, nevF, obs]
    simp only []
    cases certF o (ruF p o) <;> cases o.f2_Kept <;> cases inr (ruF p o) <;> rfl
theorem refNever_lf (fuel : Nat) (hf : 3000000 ≤ fuel) {p : S_api_Program} (h : BdP p) (name : ByteArray) (arity : Int) : lf_constraintref31_Never fuel p name arity = some (nevF (sF p name arity)) := by
  rw [lf_constraintref31_Never, refOf_lf h, Option.bind_some, refNeverL0_lf fuel hf h _ fun o ho => oc_at ho]
  rfl
theorem refLateL0_lf (fuel : Nat) (hf : 3000000 ≤ fuel) {p : S_api_Program} (h : BdP p) (k : Int) : ∀ (l : List S_api_Occ) (i : Nat), (∀ o ∈ l, getI p.f1_Rules o.f0_Rule = some (ruF p o) ∧ ruF p o ∈ p.f1_Rules) →
    lf_constraintref31_Late_L0 (some k) fuel p l i = some (if latF (l.map fun o => (⟨o, ruF p o⟩ : S_stored_occurrence)) < l.length then ((i + latF (l.map fun o => (⟨o, ruF p o⟩ : S_stored_occurrence)) : Nat) : Int) else k)
  | [], i, _ => by rw [lf_constraintref31_Late_L0]; simp [latF]
  | o :: l, i, ho => by
    obtain ⟨h1, h2⟩ := ho o (List.mem_cons_self ..)
    have ih := refLateL0_lf fuel hf h k l (i + 1) fun y hy => ho y (List.mem_cons_of_mem _ hy)
    rw [lf_constraintref31_Late_L0, ih, h1, Option.bind_some, refInert_lf fuel hf (h.r _ h2), Option.bind_some, List.map_cons, latF, obs]
    simp only []
    cases o.f2_Kept <;> cases inr (ruF p o) <;> simp <;> (split <;> first | rfl | omega | (congr 1; omega))
theorem refLate_lf (fuel : Nat) (hf : 3000000 ≤ fuel) {p : S_api_Program} (h : BdP p) (name : ByteArray) (arity : Int) : lf_constraintref31_Late fuel p name arity = some (latF (sF p name arity) : Int) := by
  have := lat_le (sF p name arity)
  have hl : (sF p name arity).length = (ocF p name arity).length := by simp [sF]
  rw [lf_constraintref31_Late, refOf_lf h, Option.bind_some, refLateL0_lf fuel hf h _ _ _ fun o ho => oc_at ho]
  change some (if latF (sF p name arity) < (ocF p name arity).length then _ else _) = _
  split
  · simp [sF]
  · congr 1; omega

/-! ### StoredFacts -/
theorem large_lf (p : S_api_Program) (hn : ∀ r ∈ p.f1_Rules, Nm r) : TotP (lf_constraintlaw31_large p) fun b => b = false → p.f1_Rules.length ≤ 10 ∧ BdP p := by
  unfold lf_constraintlaw31_large
  refine .cond (fun _ => .pure fun h => by cases h) fun h1 => ?_
  have h1 := of_decide_eq_false h1
  exact .bind (greatR_L0 _ _ 60 (by omega) false rfl _ hn) fun b hb => .pure fun hbf => ⟨by omega, ⟨by omega, hb hbf⟩⟩
theorem factsL1_lf (fuel : Nat) (hf : 3000000 ≤ fuel) {p : S_api_Program} (h : BdP p) (k : Option Bool) : ∀ l : List At, lf_constraintlaw31_StoredFacts_L1 k fuel p l = k
  | [] => by rw [lf_constraintlaw31_StoredFacts_L1]
  | a :: l => by
    rw [lf_constraintlaw31_StoredFacts_L1, never_lf h, Option.bind_some, refNever_lf fuel hf h, Option.bind_some, late_lf h, Option.bind_some, refLate_lf fuel hf h, Option.bind_some, factsL1_lf fuel hf h k l]
    simp
theorem factsL0_lf (fuel : Nat) (hf : 3000000 ≤ fuel) {p : S_api_Program} (h : BdP p) (k : Option Bool) : ∀ l : List S_api_Rule, (∀ r ∈ l, Bd r) → lf_constraintlaw31_StoredFacts_L0 k fuel p l = k
  | [], _ => by rw [lf_constraintlaw31_StoredFacts_L0]
  | r :: l, hl => by
    have hr := hl r (List.mem_cons_self ..)
    rw [lf_constraintlaw31_StoredFacts_L0, inert_lf hr, Option.bind_some, refInert_lf fuel hf hr, Option.bind_some, refHeads_lf hr, Option.bind_some, factsL1_lf fuel hf h, factsL0_lf fuel hf h k l fun x hx => hl x (List.mem_cons_of_mem _ hx)]
    simp
theorem facts_lf (p : S_api_Program) (name : ByteArray) (arity : Int) (hn : ∀ r ∈ p.f1_Rules, Nm r) : lf_constraintlaw31_StoredFacts 3000000 p name arity = some true := by
  rw [lf_constraintlaw31_StoredFacts, live31]
  obtain ⟨b, e1, e2⟩ := large_lf p hn
  rw [e1, Option.bind_some]
  cases b with
  | true => rfl
  | false =>
    obtain ⟨_, hB⟩ := e2 rfl
    rw [cond_false, factsL0_lf _ (Nat.le_refl _) hB _ _ hB.r, never_lf hB, Option.bind_some, refNever_lf _ (Nat.le_refl _) hB, Option.bind_some, late_lf hB, Option.bind_some, refLate_lf _ (Nat.le_refl _) hB, Option.bind_some]
    simp

/-! ### StoredOrder -/
theorem lat_spec : ∀ (l : List S_stored_occurrence) (k : Nat) (x : S_stored_occurrence), l[k]? = some x → k ≤ latF l → obs x = decide (k = latF l)
  | [], k, x, h, _ => by simp at h
  | y :: l, k, x, h, hk => by
    rw [latF] at hk ⊢
    cases hy : obs y with
    | true =>
      rw [hy, if_pos rfl] at hk
      obtain rfl : k = 0 := by omega
      simp only [List.getElem?_cons_zero, Option.some.injEq] at h
      subst h
      simp [hy]
    | false =>
      rw [hy, if_neg (by simp)] at hk
      rw [if_neg (by simp)]
      cases k with
      | zero =>
        simp only [List.getElem?_cons_zero, Option.some.injEq] at h
        subst h
        rw [hy]
        exact (decide_eq_false (by omega)).symm
      | succ k =>
        rw [lat_spec l k x (by simpa using h) (by omega)]
        exact decide_eq_decide.2 (by omega)
theorem nev_zero : ∀ l : List S_stored_occurrence, latF l = 0 → nevF l = false
  | [], _ => rfl
  | x :: l, h => by
    rw [latF] at h
    cases hx : obs x with
    | false => rw [hx, if_neg (by simp)] at h; omega
    | true =>
      rw [nevF, hx]
      have : certF x.f0_Occ x.f1_rule = false := by
        unfold obs at hx
        rw [Bool.and_eq_true] at hx
        rw [certF, if_pos hx.1]
      rw [this]
      simp
theorem orderL1_lf {p : S_api_Program} (h : BdP p) (k0 : Option Bool) (n : Nat) : ∀ (l : List S_api_Occ) (k : Nat), (∀ o ∈ l, getI p.f1_Rules o.f0_Rule = some (ruF p o) ∧ ruF p o ∈ p.f1_Rules) →
    (∀ (j : Nat) (o : S_api_Occ), l[j]? = some o → k + j ≤ n → obs ⟨o, ruF p o⟩ = decide (k + j = n)) → lf_constraintlaw31_StoredOrder_L1 k0 p (n : Int) l k = k0
  | [], k, _, _ => by rw [lf_constraintlaw31_StoredOrder_L1]; cases decide ((k : Int) ≤ (n : Int)) <;> rfl
  | o :: l, k, ho, hs => by
    obtain ⟨h1, h2⟩ := ho o (List.mem_cons_self ..)
    have ih := orderL1_lf h k0 n l (k + 1) (fun y hy => ho y (List.mem_cons_of_mem _ hy)) fun j y hj hkj => by
      rw [hs (j + 1) y (by simpa using hj) (by omega)]
      exact decide_eq_decide.2 (by omega)
    rw [lf_constraintlaw31_StoredOrder_L1, ih, h1, Option.bind_some, inert_lf (h.r _ h2), Option.bind_some]
    by_cases hk : k ≤ n
    · rw [decide_eq_true (by omega), cond_true]
      have h0 := hs 0 o rfl hk
      rw [Nat.add_zero, obs] at h0
      simp only at h0
      have hb : ((k : Int) == (n : Int)) = decide (k = n) := by
        by_cases e : k = n
        · subst e; simp
        · rw [decide_eq_false e]; simp only [beq_eq_false_iff_ne]; omega
      rw [hb, ← h0]
      cases o.f2_Kept <;> cases inr (ruF p o) <;> rfl
    · rw [decide_eq_false (by omega), cond_false]
theorem orderL2_eq (k0 : Option Bool) (p : S_api_Program) (n : Int) : ∀ (l : List S_api_Occ) (k : Nat), lf_constraintlaw31_StoredOrder_L2 k0 p n l k = lf_constraintlaw31_StoredOrder_L1 k0 p n l k
  | [], k => by rw [lf_constraintlaw31_StoredOrder_L2, lf_constraintlaw31_StoredOrder_L1]
  | o :: l, k => by rw [lf_constraintlaw31_StoredOrder_L2, lf_constraintlaw31_StoredOrder_L1]; simp only [orderL2_eq k0 p n l]
theorem orderL0_lf {p : S_api_Program} (h : BdP p) (k0 : Option Bool) : ∀ tr : List (S_api_Occ × At), (∀ x ∈ tr, x ∈ trF 0 p.f1_Rules) → lf_constraintlaw31_StoredOrder_L0 k0 p (tr.map (·.1)) = k0
  | [], _ => by rw [List.map_nil, lf_constraintlaw31_StoredOrder_L0]
  | x :: tr, hx => by
    obtain ⟨r, h1, h2, h3⟩ := tr_at (hx x (List.mem_cons_self ..))
    have ih := orderL0_lf h k0 tr fun y hy => hx y (List.mem_cons_of_mem _ hy)
    rw [List.map_cons, lf_constraintlaw31_StoredOrder_L0, h1, Option.bind_some, refHeads_lf (h.r r h2), Option.bind_some, h3, Option.bind_some, refOf_lf h, Option.bind_some, late_lf h, Option.bind_some, never_lf h, Option.bind_some]
    have hl := lat_le (sF p x.2.n (x.2.ts.length : Int))
    have hlen : (sF p x.2.n (x.2.ts.length : Int)).length = (ocF p x.2.n (x.2.ts.length : Int)).length := by simp [sF]
    rw [decide_eq_false (by omega), cond_false, decide_eq_false (by omega), cond_false, orderL2_eq, orderL1_lf h _ _ _ 0 (fun o ho => oc_at ho) (fun j o hj hk => by
      have hj' : (sF p x.2.n (x.2.ts.length : Int))[j]? = some ⟨o, ruF p o⟩ := by simp [sF, hj]
      rw [lat_spec _ j _ hj' (by omega)]
      exact decide_eq_decide.2 (by omega)), ih]
    by_cases h0 : latF (sF p x.2.n (x.2.ts.length : Int)) = 0
    · rw [nev_zero _ h0]
      simp
    · rw [show (((latF (sF p x.2.n (x.2.ts.length : Int)) : Nat) : Int) == (0 : Int)) = false by simpa using h0]
      rfl
theorem order_lf (p : S_api_Program) (hn : ∀ r ∈ p.f1_Rules, Nm r) : lf_constraintlaw31_StoredOrder p = some true := by
  rw [lf_constraintlaw31_StoredOrder, live31]
  obtain ⟨b, e1, e2⟩ := large_lf p hn
  rw [e1, Option.bind_some]
  cases b with
  | true => rfl
  | false =>
    obtain ⟨_, hB⟩ := e2 rfl
    rw [cond_false, all_lf hB, Option.bind_some, allF, orderL0_lf hB _ _ fun _ hx => hx]
    rfl
end Go.Proofs.Ytnldggbcfcibaaa


namespace Go.Proofs.Ytnldggbcfcibaaa
set_option maxRecDepth 100000
open Go.RowKit

theorem trF_app (r : S_api_Rule) : ∀ (l : List S_api_Rule) (i : Nat), trF i (l ++ [r]) = trF i l ++ dn (i + l.length) r (hd r) (hd r).length
  | [], i => by simp [trF]
  | x :: l, i => by
    rw [List.cons_append, trF, trF, trF_app r l (i + 1), List.append_assoc]
    simp only [List.length_cons]
    rw [show i + 1 + l.length = i + (l.length + 1) by omega]
theorem bdP_app {p : S_api_Program} {ds : List S_api_Decl} {r : S_api_Rule} (h : BdP p) (h10 : p.f1_Rules.length ≤ 10) (hr : Bd r) : BdP ⟨ds, p.f1_Rules ++ [r]⟩ :=
  ⟨by simp; omega, fun x hx => (List.mem_append.1 hx).elim (h.r x) fun e => by rw [List.mem_singleton.1 e]; exact hr⟩
theorem bdP_cons {p : S_api_Program} {ds : List S_api_Decl} {r : S_api_Rule} (h : BdP p) (h10 : p.f1_Rules.length ≤ 10) (hr : Bd r) : BdP ⟨ds, r :: p.f1_Rules⟩ :=
  ⟨by simp; omega, fun x hx => (List.mem_cons.1 hx).elim (fun e => e ▸ hr) (h.r x)⟩
theorem sF_app {p : S_api_Program} {ds : List S_api_Decl} (r : S_api_Rule) (name : ByteArray) (arity : Int) : ∃ l, sF ⟨ds, p.f1_Rules ++ [r]⟩ name arity = sF p name arity ++ l := by
  refine ⟨(((dn (0 + p.f1_Rules.length) r (hd r) (hd r).length).filter (isOf name arity)).map (·.1)).map fun o => ⟨o, ruF ⟨ds, p.f1_Rules ++ [r]⟩ o⟩, ?_⟩
  unfold sF ocF
  rw [trF_app, List.filter_append, List.map_append, List.map_append]
  congr 1
  refine List.map_congr_left fun o ho => ?_
  obtain ⟨h1, _⟩ := oc_at (p := p) (name := name) (arity := arity) ho
  congr 1
  unfold ruF at h1 ⊢
  obtain ⟨h2, h3⟩ := getI_some h1
  have hlt : o.f0_Rule.toNat < p.f1_Rules.length := (List.getElem?_eq_some_iff.1 h3).1
  have h4 : getI (p.f1_Rules ++ [r]) o.f0_Rule = getI p.f1_Rules o.f0_Rule := by
    unfold getI
    rw [if_pos h2, if_pos h2, List.getElem?_append_left hlt]
  show (getI (p.f1_Rules ++ [r]) o.f0_Rule).getD _ = _
  rw [h4]
theorem nev_app : ∀ (l m : List S_stored_occurrence), nevF l = true → nevF (l ++ m) = true
  | [], _, h => by simp [nevF] at h
  | x :: l, m, h => by
    rw [List.cons_append]
    rw [nevF] at h ⊢
    split
    · rfl
    · rename_i hc
      rw [if_neg hc] at h
      split
      · rename_i ho; rw [if_pos ho] at h; cases h
      · rename_i ho; rw [if_neg ho] at h; exact nev_app l m h
theorem lat_app : ∀ (l m : List S_stored_occurrence), latF l < l.length → latF (l ++ m) = latF l
  | [], _, h => by simp [latF] at h
  | x :: l, m, h => by
    rw [List.cons_append]
    rw [latF] at h ⊢
    rw [latF]
    split
    · rfl
    · rename_i ho
      rw [if_neg ho] at h
      rw [lat_app l m (by simpa using h)]
theorem moreL1_lf {p : S_api_Program} (h : BdP p) (h10 : p.f1_Rules.length ≤ 10) {r : S_api_Rule} (hr : Bd r) (k : Option Bool) (ds : List S_api_Decl) : ∀ l : List At, lf_constraintlaw31_StoredMore_L1 k ds (p.f1_Rules ++ [r]) p l = k
  | [] => by rw [lf_constraintlaw31_StoredMore_L1]
  | a :: l => by
    have hM := bdP_app (ds := ds) h h10 hr
    obtain ⟨m, hm⟩ := sF_app (p := p) (ds := ds) r a.n (a.ts.length : Int)
    have hlen : (sF p a.n (a.ts.length : Int)).length = (ocF p a.n (a.ts.length : Int)).length := by simp [sF]
    rw [lf_constraintlaw31_StoredMore_L1, late_lf h, Option.bind_some, never_lf h, Option.bind_some, never_lf hM, Option.bind_some, refOf_lf h, Option.bind_some, late_lf hM, Option.bind_some, moreL1_lf h h10 hr k ds l, hm, ← hlen]
    by_cases hl : latF (sF p a.n (a.ts.length : Int)) < (sF p a.n (a.ts.length : Int)).length
    · rw [lat_app _ m hl, decide_eq_true (by omega)]
      cases hn : nevF (sF p a.n (a.ts.length : Int)) with
      | true => rw [nev_app _ m hn]; simp
      | false => simp
    · rw [decide_eq_false (by omega)]
      cases hn : nevF (sF p a.n (a.ts.length : Int)) with
      | true => rw [nev_app _ m hn]; simp
      | false => simp
theorem moreL0_lf {p : S_api_Program} (h : BdP p) (h10 : p.f1_Rules.length ≤ 10) {r : S_api_Rule} (hr : Bd r) (k : List S_api_Decl → List S_api_Rule → Option Bool) (ds d2 : List S_api_Decl) (r2 : List S_api_Rule) : ∀ l : List S_api_Rule, (∀ x ∈ l, Bd x) → lf_constraintlaw31_StoredMore_L0 k p l ds (p.f1_Rules ++ [r]) d2 r2 = k d2 r2
  | [], _ => by rw [lf_constraintlaw31_StoredMore_L0]
  | x :: l, hl => by
    rw [lf_constraintlaw31_StoredMore_L0, refHeads_lf (hl x (List.mem_cons_self ..)), Option.bind_some, moreL1_lf h h10 hr]
    exact moreL0_lf h h10 hr k ds d2 r2 l fun y hy => hl y (List.mem_cons_of_mem _ hy)
theorem sF_first {p : S_api_Program} {ds : List S_api_Decl} {r : S_api_Rule} {a : At} (hk : r.f1_Keep = [a]) (hr : r.f2_Remove = []) : ∃ l, sF ⟨ds, r :: p.f1_Rules⟩ a.n (a.ts.length : Int) = ⟨⟨0, 0, true⟩, r⟩ :: l := by
  have hh : hd r = [a] := by rw [hd, hk, hr]; rfl
  have hd1 : dn 0 r [a] 1 = [(⟨0, 0, true⟩, a)] := by
    simp [dn, hk]
  have hi : isOf a.n (a.ts.length : Int) (⟨0, 0, true⟩, a) = true := by simp [isOf]
  unfold sF ocF
  rw [trF, hh]
  simp only [List.length_singleton]
  rw [hd1, List.singleton_append, List.filter_cons, hi, if_pos rfl, List.map_cons, List.map_cons]
  exact ⟨_, rfl⟩
theorem more_lf (p : S_api_Program) (r : S_api_Rule) (hn : ∀ x ∈ p.f1_Rules, Nm x) (hr : Nm r) : lf_constraintlaw31_StoredMore p r = some true := by
  rw [lf_constraintlaw31_StoredMore, live31]
  obtain ⟨b, e1, e2⟩ := large_lf p hn
  rw [e1, Option.bind_some]
  cases b with
  | true => rfl
  | false =>
    obtain ⟨h10, hB⟩ := e2 rfl
    rw [cond_false]
    obtain ⟨c, f1, f2⟩ := greatR_L0 (some false) [r] 60 (by omega) false rfl [r] fun x hx => by rw [List.mem_singleton.1 hx]; exact hr
    rw [lf_constraintref03_GreatRules, f1, Option.bind_some]
    cases c with
    | true => rfl
    | false =>
      have hb := f2 rfl r (by simp)
      rw [cond_false, appO_eq (by simp; omega) (by simp; omega), Option.bind_some, appO_eq (by simp; omega) (by simp; omega), Option.bind_some, appO_eq (by simp) (by simp), Option.bind_some, appO_eq (by simp; omega) (by simp; omega), Option.bind_some]
      simp only [List.nil_append]
      rw [moreL0_lf hB h10 hb _ _ _ _ _ hB.r, inert_lf hb, Option.bind_some]
      match hk : r.f1_Keep, hrm : r.f2_Remove with
      | [a], [] =>
        have hF := bdP_cons (ds := ([] : List S_api_Decl)) hB h10 hb
        obtain ⟨l, hl⟩ := sF_first (p := p) (ds := []) hk hrm
        simp only [List.length_singleton, List.length_nil, List.singleton_append]
        rw [show getI [a] 0 = some a from rfl, Option.bind_some, never_lf hF, Option.bind_some, late_lf hF, Option.bind_some, hl]
        cases hi : inr r with
        | true => rfl
        | false =>
          have ho : obs ⟨⟨0, 0, true⟩, r⟩ = true := by simp [obs, hi]
          have h0 : latF ((⟨⟨0, 0, true⟩, r⟩ : S_stored_occurrence) :: l) = 0 := by rw [latF, if_pos ho]
          rw [nev_zero _ h0, h0]
          rfl
      | [], _ => simp
      | [a], x :: m =>
        simp only [List.length_cons, List.length_nil]
        rw [show (((m.length + 1 : Nat) : Int) == (0 : Int)) = false by simp only [beq_eq_false_iff_ne]; omega]
        rfl
      | a :: x :: m, _ =>
        simp only [List.length_cons]
        rw [show (((m.length + 1 + 1 : Nat) : Int) == (1 : Int)) = false by simp only [beq_eq_false_iff_ne]; omega]
        rfl

/-! ### names are strings of the machine -/
theorem reps_in {p : Addr → Prop} {w : World} : ∀ {ds : List D} {cs : List Value}, Reps p w ds cs → ∀ d ∈ ds, ∃ v, Rep p w d v
  | [], _, _, _, h => by cases h
  | x :: ds, cs, h, d, hd => by
    simp only [Reps] at h
    obtain ⟨v, rest, _, h1, h2⟩ := h
    exact (List.mem_cons.1 hd).elim (fun e => e ▸ ⟨v, h1⟩) (reps_in h2 d)
theorem agg_mem {p : Addr → Prop} {w : World} {fs : List D} {v : Value} (h : Rep p w (.agg fs) v) (d : D) (hd : d ∈ fs) : ∃ v, Rep p w d v := by
  simp only [Rep] at h
  obtain ⟨cs, _, h, _⟩ := h
  exact reps_in h d hd
theorem lst_mem {α : Type} {f : α → D} {p : Addr → Prop} {w : World} {l : List α} {v : Value} (h : Rep p w (.lst (l.map f)) v) (a : α) (ha : a ∈ l) : ∃ v, Rep p w (f a) v := by
  simp only [Rep] at h
  obtain ⟨A, c, xs, _, _, _, _, h, _⟩ := h
  exact reps_in h _ (List.mem_map.2 ⟨a, ha, rfl⟩)
theorem str_le {p : Addr → Prop} {w : World} {s : ByteArray} {v : Value} (h : Rep p w (.str s) v) : s.size ≤ 9223372036854775807 := by
  simp only [Rep] at h
  exact h.2
theorem nmA_of {p : Addr → Prop} {w : World} {l : List At} {v : Value} (h : Rep p w (.lst (l.map encA)) v) : NmA l := fun a ha => by
  obtain ⟨v, h⟩ := lst_mem h a ha
  obtain ⟨v, h⟩ := agg_mem h (.str a.n) (by simp)
  exact str_le h
theorem nmG_of {p : Addr → Prop} {w : World} {l : List Gl} {v : Value} (h : Rep p w (.lst (l.map encG)) v) : NmG l := fun a ha => by
  obtain ⟨v, h⟩ := lst_mem h a ha
  obtain ⟨v, h⟩ := agg_mem h (.str a.n) (by simp)
  exact str_le h
theorem nm_of {p : Addr → Prop} {w : World} {r : S_api_Rule} {v : Value} (h : Rep p w (enc_S_api_Rule r) v) : Nm r := by
  obtain ⟨_, h1⟩ := agg_mem h (.lst (r.f1_Keep.map encA)) (by simp)
  obtain ⟨_, h2⟩ := agg_mem h (.lst (r.f2_Remove.map encA)) (by simp)
  obtain ⟨_, h3⟩ := agg_mem h (.lst (r.f3_Guard.map encG)) (by simp)
  obtain ⟨_, h4⟩ := agg_mem h (.lst (r.f4_Body.map encG)) (by simp)
  exact ⟨nmA_of h1, nmA_of h2, nmG_of h3, nmG_of h4⟩
theorem nmP_of {p : Addr → Prop} {w : World} {q : S_api_Program} {v : Value} (h : Rep p w (enc_S_api_Program q) v) : ∀ r ∈ q.f1_Rules, Nm r := fun r hr => by
  obtain ⟨_, h1⟩ := agg_mem h (.lst (q.f1_Rules.map enc_S_api_Rule)) (by simp)
  obtain ⟨_, h2⟩ := lst_mem h1 r hr
  exact nm_of h2
theorem gives_StoredFacts (q : S_api_Program) (name : ByteArray) (arity : Int) : Gives Try.prog 3 [enc_S_api_Program q, .str name, .int .i64 arity] (.bool true) := fun w p vs hi hv => by
  have hv' := hv
  simp only [Repl] at hv'
  obtain ⟨v, _, _, h, _⟩ := hv'
  exact lg_constraintlaw31_StoredFacts 3000000 q name arity true (facts_lf q name arity (nmP_of h)) w p vs hi hv
theorem gives_StoredOrder (q : S_api_Program) : Gives Try.prog 4 [enc_S_api_Program q] (.bool true) := fun w p vs hi hv => by
  have hv' := hv
  simp only [Repl] at hv'
  obtain ⟨v, _, _, h, _⟩ := hv'
  exact lg_constraintlaw31_StoredOrder q true (order_lf q (nmP_of h)) w p vs hi hv
theorem gives_StoredMore (q : S_api_Program) (r : S_api_Rule) : Gives Try.prog 5 [enc_S_api_Program q, enc_S_api_Rule r] (.bool true) := fun w p vs hi hv => by
  have hv' := hv
  simp only [Repl] at hv'
  obtain ⟨v, _, _, h, u, _, _, h2, _⟩ := hv'
  exact lg_constraintlaw31_StoredMore q r true (more_lf q r (nmP_of h) (nm_of h2)) w p vs hi hv
end Go.Proofs.Ytnldggbcfcibaaa


namespace Go.Proofs.Ytnldggbcfcibaaa
set_option maxRecDepth 100000
open Go.ChangeShapes Go.WideShapes Go.ChangeAt Go.RowKit

/-- Every cell that there is. -/
def live (w : World) (a : Addr) : Prop := ∃ v, w.cell? a = some v
theorem live_grow {w w' : World} (e : Ext w w') : Grow (live w) w (live w') w' := fun _ ⟨v, hv⟩ => ⟨⟨v, e.cellOf hv⟩, by rw [hv]; exact e.cellOf hv⟩
/-- A datum of a type, opened. -/
def Op (t : TypeId) (n : Nat) (S : D → Prop) : Prop := ∀ (H : Type) (enc : TypeId × Value → H) (W : World) (base : Nat) (sp : Nat → Bool) (hd : Bool) (fuel : Nat) (cs : List Value) (x : DataW H × List MemPlace),
  DataW.trod enc Try.prog W base sp hd fuel t cs = some x → ∃ d v, S d ∧ d.plain = true ∧ sz d = n ∧ Rep (live W) W d v ∧ cs = v.cells.toList
theorem Op.to {t : TypeId} {n : Nat} {S S' : D → Prop} (h : Op t n S) (k : ∀ d, S d → S' d) : Op t n S' := fun H enc W base sp hd fuel cs x hx => by
  obtain ⟨d, v, h1, h2⟩ := h H enc W base sp hd fuel cs x hx
  exact ⟨d, v, k d h1, h2⟩
theorem op_i64 {t : TypeId} (ht : (Try.prog).underlying t = some (.int .i64)) : Op t 1 fun d => ∃ n, d = .int .i64 n := fun H enc W base sp hd fuel cs x hx => by
  obtain ⟨k, rfl, _, w0⟩ := DataW.trod_int ht hx
  have := i64_of w0
  refine ⟨.int .i64 k, .int .i64 k, ⟨k, rfl⟩, rfl, rfl, ?_, by simp [Value.cells]⟩
  simp only [Rep]
  exact ⟨trivial, wrap64 (by unfold I64 at this; omega)⟩
theorem op_str {t : TypeId} (ht : (Try.prog).underlying t = some .string) : Op t 1 fun d => ∃ s, d = .str s := fun H enc W base sp hd fuel cs x hx => by
  obtain ⟨s, rfl, _, w0⟩ := DataW.trod_string ht hx
  refine ⟨.str s, .string s, ⟨s, rfl⟩, rfl, rfl, ?_, by simp [Value.cells]⟩
  simp only [Rep]
  exact ⟨trivial, by unfold maxLen at w0; omega⟩
/-- One predicate a field. -/
def Fits : List (D → Prop) → List D → Prop
  | [], [] => True
  | S :: ss, d :: ds => S d ∧ Fits ss ds
  | _, _ => False
/-- Fields, one behind the other, from an offset to the end. -/
def tight (P : Program) : Nat → List Field → Bool
  | _, [] => true
  | o, f :: fs => f.offset == o && tight P (o + P.cellsOf f.type) fs
theorem reps_ones {p : Addr → Prop} {w : World} : ∀ {ds : List D} {cs : List Value}, Reps p w ds cs → (∀ d ∈ ds, d.plain = true) → ∀ u ∈ cs, u.oneCell' = true
  | [], cs, h, _, u, hu => by simp only [Reps] at h; subst h; simp at hu
  | d :: ds, cs, h, hp, u, hu => by
    simp only [Reps] at h
    obtain ⟨v, rest, rfl, h1, h2⟩ := h
    rcases List.mem_append.1 hu with hu | hu
    · exact h1.one (hp d (List.mem_cons_self ..)) u hu
    · exact reps_ones h2 (fun e he => hp e (List.mem_cons_of_mem _ he)) u hu
def total (P : Program) : List Field → Nat
  | [] => 0
  | f :: fs => P.cellsOf f.type + total P fs
def Ops : List Field → List (D → Prop) → Prop
  | [], [] => True
  | f :: fs, S :: ss => Op f.type ((Try.prog).cellsOf f.type) S ∧ Ops fs ss
  | _, _ => False
theorem fields_open {H : Type} {enc : TypeId × Value → H} {W : World} {base : Nat} {sp : Nat → Bool} {hd : Bool} {n : Nat} {cs : List Value} :
    ∀ (fs : List Field) (ss : List (D → Prop)) (o : Nat), Ops fs ss → tight Try.prog o fs = true → o + total Try.prog fs = cs.length →
      (∀ (i : Nat) (f : Field), fs[i]? = some f → ∃ x, DataW.trod enc Try.prog W base sp hd n f.type ((cs.drop f.offset).take ((Try.prog).cellsOf f.type)) = some x) →
      ∃ ds, Fits ss ds ∧ (∀ d ∈ ds, d.plain = true) ∧ szs ds = total Try.prog fs ∧ Reps (live W) W ds (cs.drop o)
  | [], [], o, _, _, hl, _ => ⟨[], trivial, by simp, rfl, by simp only [total] at hl; rw [List.drop_eq_nil_of_le (by omega)]; exact Reps.nil _ _⟩
  | f :: fs, S :: ss, o, hop, ht, hl, hx => by
    simp only [tight, Bool.and_eq_true, beq_iff_eq] at ht
    simp only [total] at hl
    obtain ⟨ds, h1, h2, h3, h4⟩ := fields_open fs ss (o + (Try.prog).cellsOf f.type) hop.2 ht.2 (by omega) fun i g hg => hx (i + 1) g hg
    obtain ⟨x, h5⟩ := hx 0 f rfl
    rw [ht.1] at h5
    obtain ⟨d, v, g1, g2, g3, g4, g5⟩ := hop.1 H enc W base sp hd n _ x h5
    refine ⟨d :: ds, ⟨g1, h1⟩, ?_, by simp only [szs, total, g3, h3], ?_⟩
    · intro e he
      rcases List.mem_cons.1 he with rfl | he
      · exact g2
      · exact h2 e he
    · have := Reps.cons g4 h4
      rw [← g5, ← List.drop_drop, List.take_append_drop] at this
      exact this
  | [], _ :: _, _, h, _, _, _ => h.elim
  | _ :: _, [], _, h, _, _, _ => h.elim
theorem op_struct {t : TypeId} {fs : Array Field} {n : Nat} (ht : (Try.prog).underlying t = some (.struct fs)) (ss : List (D → Prop)) (hs : Ops fs.toList ss) (h1 : tight Try.prog 0 fs.toList = true) (h2 : total Try.prog fs.toList = n) (h3 : (Try.prog).cellsOf t = n) :
    Op t n fun d => ∃ ds, d = .agg ds ∧ Fits ss ds := fun H enc W base sp hd fuel cs x hx => by
  obtain ⟨xs, m, _, _, hl, hlen, hf⟩ := DataW.trod_struct ht hx
  obtain ⟨ds, g1, g2, g3, g4⟩ := fields_open (enc := enc) (W := W) (base := base) (sp := sp) (hd := hd) (n := m) (cs := cs) fs.toList ss 0 hs h1 (by omega) fun i f hi => by
    have hi' : fs[i]? = some f := by simpa using hi
    have hlt : i < xs.length := by
      have := (Array.getElem?_eq_some_iff.1 hi').1
      omega
    exact ⟨xs[i], by rw [hf i f hi', List.getElem?_eq_getElem hlt]⟩
  refine ⟨.agg ds, .agg cs.toArray, ⟨ds, rfl, g1⟩, rfl, by simp only [sz]; omega, ?_, by simp [Value.cells]⟩
  simp only [Rep]
  rw [List.drop_zero] at g4
  exact ⟨cs, rfl, g4, reps_ones g4 g2⟩
/-- Data of one size as a layout. -/
def layD (n : Nat) (hn : 0 < n) (S : D → Prop) : Lay D where
  C := fun w d cs => S d ∧ d.plain = true ∧ sz d = n ∧ ∃ v, Rep (live w) w d v ∧ cs = v.cells.toList
  n := n
  pos := hn
  ext := fun ⟨h1, h2, h3, v, h4, h5⟩ e => ⟨h1, h2, h3, v, h4.grow (live_grow e), h5⟩
  len := fun ⟨_, _, h3, v, h4, h5⟩ => by rw [h5, ← h3, ← h4.sz]; simp
  one := fun ⟨_, h2, _, v, h4, h5⟩ u hu => by subst h5; exact h4.one h2 u hu
theorem layD_ls {n : Nat} {hn : 0 < n} {S : D → Prop} {w : World} : ∀ {l : List D} {xs : List Value}, (layD n hn S).Ls w l xs → (∀ d ∈ l, S d ∧ d.plain = true) ∧ Reps (live w) w l xs
  | [], xs, h => by
    have h : xs = [] := h
    subst h
    exact ⟨by simp, Reps.nil _ _⟩
  | d :: l, xs, ⟨cs, ys, h1, ⟨g1, g2, _, v, g4, g5⟩, h3⟩ => by
    obtain ⟨k1, k2⟩ := layD_ls h3
    subst h1 g5
    refine ⟨?_, Reps.cons g4 k2⟩
    intro e he
    rcases List.mem_cons.1 he with rfl | he
    · exact ⟨g1, g2⟩
    · exact k1 e he
theorem rd_live {w : World} {A : Option Addr} {xs : List Value} (h : Rd w A xs) : RdP (live w) w A xs := by
  rcases h with h | ⟨ad, rfl, hc⟩
  · exact .inl h
  · by_cases he : xs = []
    · exact .inl he
    · have hlen : 0 < xs.length := List.length_pos_iff.2 he
      have hsp : ad.spot = none := by
        have := cell_spot (hc 0 _ (List.getElem?_eq_getElem hlen))
        simpa [Addr.add] using this
      obtain ⟨b, o, sp⟩ := ad
      simp only at hsp
      subst hsp
      refine .inr ⟨b, o, rfl, fun j u hu => ?_⟩
      have h1 : w.cell? ⟨b, o + j, none⟩ = some u := by have := hc j u hu; rwa [add_flat] at this
      exact ⟨⟨u, h1⟩, h1⟩
theorem op_slice {t e : TypeId} {n : Nat} {S : D → Prop} (ht : (Try.prog).underlying t = some (.slice e)) (hn : (Try.prog).cellsOf e = n) (hp : 0 < n) (he : Op e n S) : Op t 1 fun d => ∃ l, d = .lst l ∧ ∀ x ∈ l, S x := fun H enc W base sp hd fuel cs x hx => by
  obtain ⟨l, v, rfl, h1⟩ := Lay.open_sl (L := layD n hp S) ht hn (fun m cs x _ h => by
    obtain ⟨d, v, g1, g2, g3, g4, g5⟩ := he H enc W base sp hd m cs x h
    exact ⟨d, g1, g2, g3, v, g4, g5⟩) hx
  obtain ⟨A, c, xs, rfl, h2, h3, h4, h5⟩ := h1
  obtain ⟨h6, h7⟩ := layD_ls h5
  refine ⟨.lst l, .slice A l.length c, ⟨l, rfl, fun d hd => (h6 d hd).1⟩, rfl, rfl, ?_, by simp [Value.cells]⟩
  simp only [Rep]
  exact ⟨A, c, xs, rfl, h2, h3, rd_live h4, h7, reps_ones h7 fun d hd => (h6 d hd).2⟩
/-- A list of data that all show something is the list of what they show. -/
theorem list_img {α : Type} {f : α → D} : ∀ {l : List D}, (∀ x ∈ l, ∃ a, x = f a) → ∃ av : List α, l = av.map f
  | [], _ => ⟨[], rfl⟩
  | d :: l, h => by
    obtain ⟨a, rfl⟩ := h d (List.mem_cons_self ..)
    obtain ⟨av, rfl⟩ := list_img fun x hx => h x (List.mem_cons_of_mem _ hx)
    exact ⟨a :: av, rfl⟩
theorem op_list {α : Type} {f : α → D} {t e : TypeId} {n : Nat} (ht : (Try.prog).underlying t = some (.slice e)) (hn : (Try.prog).cellsOf e = n) (hp : 0 < n) (he : Op e n fun d => ∃ a, d = f a) : Op t 1 fun d => ∃ av : List α, d = .lst (av.map f) :=
  (op_slice ht hn hp he).to fun d ⟨l, hl, h⟩ => by
    obtain ⟨av, rfl⟩ := list_img h
    exact ⟨av, hl⟩

/-! ### terms -/
mutual
theorem rep_ct {w : World} : ∀ {t : T} {cs : List Value}, CT w t cs → Reps (live w) w (fsT t) cs
  | .mk k i s ar, cs, h => by
    simp only [CT] at h
    obtain ⟨A, c, xs, rfl, ⟨h1, h2, h3, h4, h5⟩, h6, h7⟩ := h
    have g := rep_cl h7
    simp only [fsT, Reps, Rep]
    refine ⟨.int .i64 k, _, by simp [Value.cells]; rfl, ⟨rfl, wrap64 (by unfold I64 at h1; omega)⟩, .int .i64 i, _, by simp [Value.cells]; rfl, ⟨rfl, wrap64 (by unfold I64 at h2; omega)⟩, .string s, _, by simp [Value.cells]; rfl, ⟨rfl, h3⟩, .slice A ar.length c, _, by simp [Value.cells], ⟨A, c, xs, ?_, ?_, h5, rd_live h6, g, reps_ones g ?_⟩, rfl⟩
    · rw [encTs_eq]; simp
    · rw [encTs_eq]; simpa using h4
    · rw [encTs_eq]
      intro d hd
      obtain ⟨t, _, rfl⟩ := List.mem_map.1 hd
      rfl
theorem rep_cl {w : World} : ∀ {ts : List T} {xs : List Value}, CL w ts xs → Reps (live w) w (encTs ts) xs
  | [], xs, h => by
    simp only [CL] at h
    subst h
    simp only [encTs, Reps]
  | t :: ts, xs, h => by
    simp only [CL] at h
    obtain ⟨cs, ys, rfl, h1, h2⟩ := h
    have g := rep_ct h1
    simp only [encTs, Reps]
    refine ⟨.agg cs.toArray, ys, by simp [Value.cells], ?_, rep_cl h2⟩
    simp only [Rep]
    exact ⟨cs, rfl, g, reps_ones g fun d hd => by
      rw [fsT_eq] at hd
      simp only [List.mem_cons, List.not_mem_nil, or_false] at hd
      rcases hd with rfl | rfl | rfl | rfl <;> rfl⟩
end
theorem op_term : Op 47 4 fun d => ∃ t, d = encT t := fun H enc W base sp hd fuel cs x hx => by
  obtain ⟨t, ht⟩ := open_termF fuel cs x hx
  have g := rep_ct ht
  refine ⟨encT t, .agg cs.toArray, ⟨t, rfl⟩, rfl, sz_encT t, ?_, by simp [Value.cells]⟩
  simp only [Rep]
  exact ⟨cs, rfl, g, reps_ones g fun d hd => by
    rw [fsT_eq] at hd
    simp only [List.mem_cons, List.not_mem_nil, or_false] at hd
    rcases hd with rfl | rfl | rfl | rfl <;> rfl⟩
theorem op_terms : Op 35 1 fun d => ∃ l : List T, d = .lst (l.map encT) := op_list Try.underlying35 cells_term (by omega) op_term
theorem op_goal : Op 51 3 fun d => ∃ g, d = encG g :=
  (op_struct Try.underlying51 [fun d => ∃ n, d = .int .i64 n, fun d => ∃ s, d = .str s, fun d => ∃ l : List T, d = .lst (l.map encT)] ⟨op_i64 Try.underlying3, op_str Try.underlying9, op_terms, trivial⟩ (by kernel_rfl) (by kernel_rfl) cells_goal).to fun d ⟨ds, hd, h⟩ => by
    match ds, h with
    | [_, _, _], ⟨⟨n, rfl⟩, ⟨s, rfl⟩, ⟨l, rfl⟩, _⟩ => exact ⟨⟨n, s, l⟩, hd⟩
/-! ### a law's arguments -/
/-- The value has the shape of its data. -/
def Cl (t : TypeId) (S : D → Prop) : Prop := ∀ (W : World) (b : Nat) (v : Value), Value.okWide Try.prog W .any b t v → ∀ d, S d → v = reval d v.cells.toList
theorem Cl.to {t : TypeId} {S S' : D → Prop} (h : Cl t S') (k : ∀ d, S d → S' d) : Cl t S := fun W b v hv d hd => h W b v hv d (k d hd)
theorem cl_struct {t : TypeId} {fs : Array Field} (ht : (Try.prog).underlying t = some (.struct fs)) : Cl t fun d => ∃ ds, d = .agg ds := fun W b v hv d ⟨ds, hd⟩ => by
  obtain ⟨cs, rfl, _⟩ := okWide_struct ht hv
  subst hd
  simp [Value.cells, reval]
theorem cl_slice {t e : TypeId} (ht : (Try.prog).underlying t = some (.slice e)) : Cl t fun d => ∃ l, d = .lst l := fun W b v hv d ⟨l, hd⟩ => by
  obtain ⟨a, n, c, rfl⟩ := okWide_slice ht hv
  subst hd
  simp [Value.cells, reval]
theorem cl_i64 {t : TypeId} (ht : (Try.prog).underlying t = some (.int .i64)) : Cl t fun d => ∃ n, d = .int .i64 n := fun W b v hv d ⟨n, hd⟩ => by
  obtain ⟨m, rfl⟩ := okWide_int ht hv
  subst hd
  simp [Value.cells, reval]
theorem cl_str {t : TypeId} (ht : (Try.prog).underlying t = some .string) : Cl t fun d => ∃ s, d = .str s := fun W b v hv d ⟨n, hd⟩ => by
  obtain ⟨m, rfl⟩ := okWide_string ht hv
  subst hd
  simp [Value.cells, reval]
structure Arg where
  t : TypeId
  n : Nat
  S : D → Prop
  op : Op t n S
  cl : Cl t S
def aInt : Arg := ⟨_, _, _, op_i64 Try.underlying3, cl_i64 Try.underlying3⟩
theorem args_open {H : Type} {enc : TypeId × Value → H} {W : World} {base b : Nat} {sp : Nat → Bool} {hd : Bool} : ∀ (av : List Arg) (vs : List Value) (ds : List (DataW H)) (ps : List MemPlace),
    DataW.TrodAll enc Try.prog W base sp hd (av.map Arg.t) vs ds ps → (∀ (j : Nat) t v, (av.map Arg.t)[j]? = some t → vs[j]? = some v → Value.okWide Try.prog W .any b t v) → ∃ es, Fits (av.map Arg.S) es ∧ Repl (live W) W es vs
  | [], vs, ds, ps, h, _ => by
    obtain ⟨rfl, _, _⟩ := trodAll_nil h
    exact ⟨[], trivial, Repl.nil _ _⟩
  | a :: av, vs, ds, ps, h, hv => by
    obtain ⟨v, vs', d, ds', p, q, rfl, rfl, rfl, ⟨fuel, h1⟩, h2⟩ := trodAll_cons h
    obtain ⟨es, g1, g2⟩ := args_open av vs' ds' q h2 fun j t u ht hu => hv (j + 1) t u ht hu
    obtain ⟨e, u, k1, k2, k3, k4, k5⟩ := a.op H enc W base sp hd fuel _ _ h1
    have e1 := a.cl W b v (hv 0 a.t v rfl rfl) e k1
    have e2 := k4.back
    rw [← k5] at e2
    rw [← e2] at e1
    subst e1
    exact ⟨e :: es, ⟨k1, g1⟩, Repl.cons k4 g2⟩
theorem holds_of {k : FuncId} {F : Func} (av : List Arg) (hp : F.params.toList = av.map Arg.t) (hg : ∀ es, Fits (av.map Arg.S) es → Gives Try.prog k es (.bool true)) : Holds k F := by
  intro H enc W base args ds p hval hA
  rw [hp] at hA
  obtain ⟨es, h1, h2⟩ := args_open (b := base) av args.toList ds p hA fun j t v ht hv => hval j t v (by rw [← Array.getElem?_toList, hp]; exact ht) (by simpa using hv)
  have hI : Inv (ctx W (live W) []) (live W) [] W := ⟨by simp, by simp [blks], by simp [blks], fun a ha => ha, Grow.refl _ _, fun a ha => .inl ha, rfl, rfl, rfl, Nat.le_refl _, fun b _ _ => rfl⟩
  refine (hg es h1 W (live W) args.toList hI h2).mono ?_
  rintro e w' (⟨v, d, σ, q, rfl, rfl, hr, hi⟩ | ⟨_, _, _, _, _, hx, _⟩)
  rotate_left
  · exact hx.elim
  simp only [Rep] at hr
  subst hr
  exact Ret.mk rfl ⟨hi.os, hi.tape, hi.output, hi.size, fun b hb => hi.block b hb (by simp [ctx, blks])⟩
end Go.Proofs.Ytnldggbcfcibaaa


namespace Go.Proofs.Ytnldggbcfcibaaa
set_option maxRecDepth 100000
open Go.ChangeShapes Go.WideShapes Go.ChangeAt Go.RowKit

theorem op_atom : Op 37 2 fun d => ∃ a, d = encA a :=
  (op_struct Try.underlying37 [fun d => ∃ s, d = .str s, fun d => ∃ l : List T, d = .lst (l.map encT)] ⟨op_str Try.underlying9, op_terms, trivial⟩ (by kernel_rfl) (by kernel_rfl) (by kernel_rfl)).to fun d ⟨ds, hd, h⟩ => by
    match ds, h with
    | [_, _], ⟨⟨s, rfl⟩, ⟨l, rfl⟩, _⟩ => exact ⟨⟨s, l⟩, hd⟩
theorem op_atoms : Op 29 1 fun d => ∃ l : List At, d = .lst (l.map encA) := op_list Try.underlying29 (by kernel_rfl) (by omega) op_atom
theorem op_goals : Op 30 1 fun d => ∃ l : List Gl, d = .lst (l.map encG) := op_list Try.underlying30 cells_goal (by omega) op_goal
theorem op_rule : Op 32 6 fun d => ∃ r, d = enc_S_api_Rule r :=
  (op_struct Try.underlying32 [fun d => ∃ s, d = .str s, fun d => ∃ l : List At, d = .lst (l.map encA), fun d => ∃ l : List At, d = .lst (l.map encA), fun d => ∃ l : List Gl, d = .lst (l.map encG), fun d => ∃ l : List Gl, d = .lst (l.map encG), fun d => ∃ n, d = .int .i64 n] ⟨op_str Try.underlying9, op_atoms, op_atoms, op_goals, op_goals, op_i64 Try.underlying3, trivial⟩ (by kernel_rfl) (by kernel_rfl) (by kernel_rfl)).to fun d ⟨ds, hd, h⟩ => by
    match ds, h with
    | [_, _, _, _, _, _], ⟨⟨s, rfl⟩, ⟨a, rfl⟩, ⟨b, rfl⟩, ⟨c, rfl⟩, ⟨e, rfl⟩, ⟨n, rfl⟩, _⟩ => exact ⟨⟨s, a, b, c, e, n⟩, hd⟩
theorem op_rules : Op 23 1 fun d => ∃ l : List S_api_Rule, d = .lst (l.map enc_S_api_Rule) := op_list Try.underlying23 (by kernel_rfl) (by omega) op_rule
theorem op_decl : Op 130 2 fun d => ∃ q, d = enc_S_api_Decl q :=
  (op_struct Try.underlying130 [fun d => ∃ s, d = .str s, fun d => ∃ n, d = .int .i64 n] ⟨op_str Try.underlying9, op_i64 Try.underlying3, trivial⟩ (by kernel_rfl) (by kernel_rfl) (by kernel_rfl)).to fun d ⟨ds, hd, h⟩ => by
    match ds, h with
    | [_, _], ⟨⟨s, rfl⟩, ⟨n, rfl⟩, _⟩ => exact ⟨⟨s, n⟩, hd⟩
theorem op_decls : Op 22 1 fun d => ∃ l : List S_api_Decl, d = .lst (l.map enc_S_api_Decl) := op_list Try.underlying22 (by kernel_rfl) (by omega) op_decl
theorem op_program : Op 25 2 fun d => ∃ q, d = enc_S_api_Program q :=
  (op_struct Try.underlying25 [fun d => ∃ l : List S_api_Decl, d = .lst (l.map enc_S_api_Decl), fun d => ∃ l : List S_api_Rule, d = .lst (l.map enc_S_api_Rule)] ⟨op_decls, op_rules, trivial⟩ (by kernel_rfl) (by kernel_rfl) (by kernel_rfl)).to fun d ⟨ds, hd, h⟩ => by
    match ds, h with
    | [_, _], ⟨⟨s, rfl⟩, ⟨n, rfl⟩, _⟩ => exact ⟨⟨s, n⟩, hd⟩
def aGoals : Arg := ⟨_, _, _, op_goals, (cl_slice Try.underlying30).to fun _ ⟨_, h⟩ => ⟨_, h⟩⟩
def aAtoms : Arg := ⟨_, _, _, op_atoms, (cl_slice Try.underlying29).to fun _ ⟨_, h⟩ => ⟨_, h⟩⟩
def aDecls : Arg := ⟨_, _, _, op_decls, (cl_slice Try.underlying22).to fun _ ⟨_, h⟩ => ⟨_, h⟩⟩
def aRule : Arg := ⟨_, _, _, op_rule, (cl_struct Try.underlying32).to fun _ ⟨_, h⟩ => ⟨_, h⟩⟩
def aProgram : Arg := ⟨_, _, _, op_program, (cl_struct Try.underlying25).to fun _ ⟨_, h⟩ => ⟨_, h⟩⟩
def aStr : Arg := ⟨_, _, _, op_str Try.underlying9, cl_str Try.underlying9⟩
end Go.Proofs.Ytnldggbcfcibaaa

