/-
  Texts of the seat, merged.
-/
import Derived.Test.YtnlncgjlhnodgaaLRA
import Derived.Test.YtnlncgjlhnodgaaLRB
import Derived.Test.YtnlncgjlhnodgaaLRC
import Derived.Test.YtnlncgjlhnodgaaLRD
import Derived.Test.YtnlncgjlhnodgaaChecked
import Derived.WalkKit
import Derived.Lib.Hide
import Derived.Lib.AppendStr
import Derived.Deep.AppendLies
import Derived.Deep.AppendSrc
import Derived.Deep.Draws
import Derived.Deep.QuietTactic
import Derived.BigQuiet
import Derived.Deep.RegionWith
import Derived.Maps.AppendAt
import Derived.WalkSpells
import Derived.Deep.Slices
import Derived.Deep.Fields
import Derived.ChangeArms
import Derived.Orders
import Derived.Lib.OthersKept
import Derived.Lib.TrimU
import Derived.Lib.IndexAny
import Derived.Deep.LoopGhost
import Derived.Lib.Bytealg
import Derived.RangeFuncBox
import Derived.RangeFuncNested
import Derived.RangeFuncBound
import Derived.RangeFuncCalls
import Derived.RangeFuncLeaves
import Derived.Shelf.Abstract
import Derived.OwnWalkIn
import Derived.TacticsInMore
import Derived.LoopNIn
import Derived.LoopIn
import Derived.RangeFuncWrites
import Derived.Maps.OwnIn
import Derived.Maps.Views
import Derived.Laws.OwnMore
import Derived.Maps.OwnSet
import Derived.Great.BuildSlice
import Derived.ArgAppend
import Derived.Laws.MakeOwn
import Derived.Laws.Cover3
import Derived.Laws.CopyRow
import Derived.MapKept
import Derived.Maps.RangeRun
import Derived.Test.YtnlncgjlhnodgaaRows
import Derived.ProofKit
import Derived.OpenShut
import Derived.Carry
import Derived.ChangeSlices
set_option linter.unusedVariables false
set_option linter.unusedSimpArgs false
set_option linter.unnecessarySimpa false
set_option linter.all false

namespace Go.Proofs.Ytnlncgjlhnodgaa
set_option maxRecDepth 100000
open Go.RowKit

/-! ### numbers that wrap -/
theorem wr_add (a b : Int) : wr (wr a + wr b) = wr (a + b) := by
  simp only [wr, IntKind.wrap, IntKind.bits, IntKind.signed]
  simp
  split <;> split <;> split <;> split <;> omega
theorem wr_addL (a b : Int) : wr (wr a + b) = wr (a + b) := by
  simp only [wr, IntKind.wrap, IntKind.bits, IntKind.signed]
  simp
  split <;> split <;> split <;> omega
theorem wr_wr (a : Int) : wr (wr a) = wr a := wrap_idem _ _

/-! ### the weight of what is small -/
theorem left_L0 {rec : T → Int → Int → Option Int} {d0 d : Int} (hd : wr (d0 - 1) = d) (hr : ∀ (t : T) (n : Int), 0 ≤ n → n ≤ 1000 → ∃ r, rec t n d = some r ∧ r ≤ n ∧ (0 ≤ r → (wt t : Int) + r ≤ n)) :
    ∀ (l : List T) (n : Int), 0 ≤ n → n ≤ 1000 → ∃ r, lf_constraintlaw04_left_L0 (fun n_5 => some n_5) rec d0 l n = some r ∧ r ≤ n ∧ (0 ≤ r → (wtL l : Int) + r ≤ n)
  | [], n, h0, h1 => ⟨n, by rw [lf_constraintlaw04_left_L0], by omega, fun _ => by simp [wtL]⟩
  | t :: l, n, h0, h1 => by
    obtain ⟨r, e1, e2, e3⟩ := hr t n h0 h1
    rw [lf_constraintlaw04_left_L0, hd, e1]
    simp only [Option.bind_some]
    by_cases hneg : r < 0
    · rw [decide_eq_true hneg]
      exact ⟨-1, rfl, by omega, fun h => by omega⟩
    · rw [decide_eq_false hneg]
      obtain ⟨r', f1, f2, f3⟩ := left_L0 hd hr l r (by omega) (by omega)
      refine ⟨r', f1, by omega, fun h => ?_⟩
      have := e3 (by omega)
      have := f3 h
      simp only [wtL]
      omega
theorem left_lf : ∀ (fuel : Nat) (t : T) (n d : Int), 0 ≤ n → n ≤ 1000 → 0 ≤ d → d < fuel → d ≤ 1000 → ∃ r, lf_constraintlaw04_left fuel t n d = some r ∧ r ≤ n ∧ (0 ≤ r → (wt t : Int) + r ≤ n)
  | 0, _, _, _, _, _, h, h', _ => by omega
  | fuel + 1, t, n, d, h0, h1, h2, h3, h4 => by
    rw [lf_constraintlaw04_left]
    by_cases hd : d < 1
    · rw [decide_eq_true hd]
      exact ⟨-1, rfl, by omega, fun h => by omega⟩
    · rw [decide_eq_false hd]
      simp only [cond_false]
      have hn : wr (n - 1) = n - 1 := wr_eq (by omega)
      rw [hn]
      by_cases hz : n - 1 < 0
      · rw [decide_eq_true hz]
        exact ⟨-1, rfl, by omega, fun h => by omega⟩
      · rw [decide_eq_false hz]
        simp only [cond_false]
        have hdd : wr (d - 1) = d - 1 := wr_eq (by omega)
        obtain ⟨r, e1, e2, e3⟩ := left_L0 hdd (fun t n g0 g1 => left_lf fuel t n (d - 1) g0 g1 (by omega) (by omega) (by omega)) t.ar (n - 1) (by omega) (by omega)
        refine ⟨r, e1, by omega, fun h => ?_⟩
        have := e3 h
        rw [wt_eq]
        omega
/-- A constraint with few small arguments. -/
def Bf (a : At) : Prop := a.ts.length ≤ 10 ∧ ∀ t ∈ a.ts, wt t ≤ 1000
theorem Bf.wt {a : At} (h : Bf a) : wtL a.ts ≤ 10000 := by
  have : ∀ l : List T, (∀ t ∈ l, Go.Proofs.Ytnlncgjlhnodgaa.wt t ≤ 1000) → wtL l ≤ 1000 * l.length := by
    intro l
    induction l with
    | nil => intro _; simp [wtL]
    | cons t l ih =>
      intro h
      have h1 := h t (List.mem_cons_self ..)
      have h2 := ih fun u hu => h u (List.mem_cons_of_mem _ hu)
      simp only [wtL, List.length_cons]
      omega
  have := this a.ts h.2
  have := h.1
  omega
theorem small_lf (fuel : Nat) (hf : 200 ≤ fuel) (t : T) : ∃ b, lf_constraintlaw04_Small fuel t = some b ∧ (b = true → wt t ≤ 1000) := by
  obtain ⟨r, e1, _, e3⟩ := left_lf fuel t 1000 100 (by omega) (by omega) (by omega) (by omega) (by omega)
  refine ⟨decide (r ≥ 0), by rw [lf_constraintlaw04_Small, e1]; rfl, fun h => ?_⟩
  have := e3 (of_decide_eq_true h)
  have := of_decide_eq_true h
  omega
theorem brief_L0 (fuel : Nat) (hf : 200 ≤ fuel) : ∀ l : List T, ∃ b, lf_constraintlaw19_Brief_L0 (some true) fuel l = some b ∧ (b = true → ∀ t ∈ l, wt t ≤ 1000)
  | [] => ⟨true, by rw [lf_constraintlaw19_Brief_L0], fun _ t h => by cases h⟩
  | t :: l => by
    obtain ⟨b, e1, e2⟩ := small_lf fuel hf t
    rw [lf_constraintlaw19_Brief_L0, e1]
    simp only [Option.bind_some]
    cases b with
    | false => exact ⟨false, rfl, fun h => by cases h⟩
    | true =>
      obtain ⟨c, f1, f2⟩ := brief_L0 fuel hf l
      refine ⟨c, f1, fun h u hu => ?_⟩
      rcases List.mem_cons.1 hu with rfl | hu
      · exact e2 rfl
      · exact f2 h u hu
theorem brief_lf (fuel : Nat) (hf : 200 ≤ fuel) (a : At) : ∃ b, lf_constraintlaw19_Brief fuel a = some b ∧ (b = true → Bf a) := by
  rw [lf_constraintlaw19_Brief]
  by_cases h : (a.ts.length : Int) > 10
  · rw [decide_eq_true h]
    exact ⟨false, rfl, fun h => by cases h⟩
  · rw [decide_eq_false h]
    obtain ⟨b, e1, e2⟩ := brief_L0 fuel hf a.ts
    exact ⟨b, e1, fun hb => ⟨by omega, e2 hb⟩⟩

/-! ### rankings -/
def isRk (s : ByteArray) (n : Int) (r : S_api_Rank) : Bool := (r.f0_Name.toList == s.toList) && ((r.f2_Factors.length : Int) == n)
def findRk (l : List S_api_Rank) (s : ByteArray) (n : Int) : S_api_Rank × Bool := match l.find? (isRk s n) with
  | some r => (r, true)
  | none => (⟨⟨#[]⟩, 0, []⟩, false)
theorem refFind_lf (s : ByteArray) (n : Int) : ∀ l, lf_constraintref41_find l s n = some (findRk l s n) := by
  intro l
  rw [lf_constraintref41_find]
  induction l with
  | nil => rw [lf_constraintref41_find_L0]; rfl
  | cons r l ih =>
    rw [lf_constraintref41_find_L0, ih]
    cases h1 : (r.f0_Name.toList == s.toList) <;> cases h2 : ((r.f2_Factors.length : Int) == n) <;> simp [findRk, List.find?, isRk, h1, h2]
theorem find1_lf (s : ByteArray) (n : Int) (r : S_api_Rank) : lf_rank_find_1 r s n = some (isRk s n r) := by
  rw [lf_rank_find_1, isRk]
  cases h1 : (r.f0_Name.toList == s.toList) <;> rfl
theorem index1_lf (s : ByteArray) (n : Int) : ∀ (l : List S_api_Rank) (i : Nat), (l.find? (isRk s n) = none ∧ lf_slices_IndexFunc_s1_L0 (some (-1)) s n l i = some (-1)) ∨ ∃ j r, l.find? (isRk s n) = some r ∧ l[j]? = some r ∧ lf_slices_IndexFunc_s1_L0 (some (-1)) s n l i = some ((i + j : Nat) : Int)
  | [], i => .inl ⟨rfl, by rw [lf_slices_IndexFunc_s1_L0]⟩
  | r :: l, i => by
    rw [lf_slices_IndexFunc_s1_L0, find1_lf]
    simp only [Option.bind_some, List.find?]
    cases h : isRk s n r with
    | true => exact .inr ⟨0, r, rfl, rfl, rfl⟩
    | false =>
      rcases index1_lf s n l (i + 1) with ⟨e1, e2⟩ | ⟨j, q, e1, e2, e3⟩
      · exact .inl ⟨e1, e2⟩
      · exact .inr ⟨j + 1, q, e1, by simpa using e2, by rw [show i + (j + 1) = i + 1 + j by omega]; exact e3⟩
theorem find_lf (l : List S_api_Rank) (s : ByteArray) (n : Int) : lf_rank_find l s n = some (findRk l s n) := by
  rw [lf_rank_find, lf_slices_IndexFunc_s1, findRk]
  rcases index1_lf s n l 0 with ⟨e1, e2⟩ | ⟨j, q, e1, e2, e3⟩
  · rw [e2, e1]; rfl
  · rw [e3, e1]
    simp only [Option.bind_some, Nat.zero_add]
    rw [decide_eq_false (by omega), getI_nat, e2]
    rfl
def inRk (n : Int) : Bool := decide (0 ≤ n ∧ n ≤ 1048576)
def rightRk (r : S_api_Rank) : Bool := inRk r.f1_Const && decide (r.f2_Factors.length ≤ 6) && r.f2_Factors.all inRk
theorem bad_lf (n : Int) : lf_rank_right_1 n = some (!inRk n) := by
  rw [lf_rank_right_1, inRk]
  by_cases h : n < 0
  · rw [decide_eq_true h, decide_eq_false (show ¬ (0 ≤ n ∧ n ≤ 1048576) by omega)]; rfl
  · rw [decide_eq_false h]
    by_cases h2 : n > 1048576
    · rw [decide_eq_true h2, decide_eq_false (show ¬ (0 ≤ n ∧ n ≤ 1048576) by omega)]; rfl
    · rw [decide_eq_false h2, decide_eq_true (show 0 ≤ n ∧ n ≤ 1048576 by omega)]; rfl
theorem index2_lf : ∀ (l : List Int) (i : Nat), ∃ r, lf_slices_IndexFunc_s2_L0 (some (-1)) l i = some r ∧ (decide (r ≥ 0) = !l.all inRk)
  | [], i => ⟨-1, by rw [lf_slices_IndexFunc_s2_L0], rfl⟩
  | n :: l, i => by
    rw [lf_slices_IndexFunc_s2_L0, bad_lf]
    simp only [Option.bind_some, List.all_cons]
    cases h : inRk n with
    | false => exact ⟨(i : Int), rfl, by simp⟩
    | true =>
      obtain ⟨r, e1, e2⟩ := index2_lf l (i + 1)
      exact ⟨r, e1, by simpa using e2⟩
theorem right_lf (r : S_api_Rank) : lf_rank_right r = some (rightRk r) := by
  rw [lf_rank_right, bad_lf, rightRk]
  simp only [Option.bind_some, Bool.not_not]
  cases h : inRk r.f1_Const with
  | false => rfl
  | true =>
    by_cases h2 : (r.f2_Factors.length : Int) ≤ 6
    · rw [decide_eq_true h2, decide_eq_true (show r.f2_Factors.length ≤ 6 by omega), lf_slices_ContainsFunc_s1, lf_slices_IndexFunc_s2]
      obtain ⟨q, e1, e2⟩ := index2_lf r.f2_Factors 0
      rw [e1]
      simp [e2]
    · rw [decide_eq_false h2, decide_eq_false (show ¬ r.f2_Factors.length ≤ 6 by omega)]
      simp
theorem refRight_L0 : ∀ l : List Int, lf_constraintref41_right_L0 (some true) l = some (l.all inRk)
  | [] => by rw [lf_constraintref41_right_L0]; rfl
  | n :: l => by
    rw [lf_constraintref41_right_L0, refRight_L0 l, List.all_cons, inRk]
    by_cases h : n < 0
    · rw [decide_eq_true h, decide_eq_false (show ¬ (0 ≤ n ∧ n ≤ 1048576) by omega)]; rfl
    · rw [decide_eq_false h]
      by_cases h2 : n > 1048576
      · rw [decide_eq_true h2, decide_eq_false (show ¬ (0 ≤ n ∧ n ≤ 1048576) by omega)]; rfl
      · rw [decide_eq_false h2, decide_eq_true (show 0 ≤ n ∧ n ≤ 1048576 by omega)]; rfl
theorem refRight_lf (r : S_api_Rank) : lf_constraintref41_right r = some (rightRk r) := by
  rw [lf_constraintref41_right, refRight_L0, rightRk, inRk]
  by_cases h : r.f1_Const < 0
  · rw [decide_eq_true h, decide_eq_false (show ¬ (0 ≤ r.f1_Const ∧ r.f1_Const ≤ 1048576) by omega)]; rfl
  · rw [decide_eq_false h]
    by_cases h2 : r.f1_Const > 1048576
    · rw [decide_eq_true h2, decide_eq_false (show ¬ (0 ≤ r.f1_Const ∧ r.f1_Const ≤ 1048576) by omega)]; rfl
    · rw [decide_eq_false h2, decide_eq_true (show 0 ≤ r.f1_Const ∧ r.f1_Const ≤ 1048576 by omega)]
      by_cases h3 : (r.f2_Factors.length : Int) > 6
      · rw [decide_eq_true h3, decide_eq_false (show ¬ r.f2_Factors.length ≤ 6 by omega)]; rfl
      · rw [decide_eq_false h3, decide_eq_true (show r.f2_Factors.length ≤ 6 by omega)]; rfl
theorem valid_lf (l : List S_api_Rank) : lf_rank_valid l = some (l.all rightRk) := by
  rw [lf_rank_valid]
  induction l with
  | nil => rw [lf_rank_valid_L0]; rfl
  | cons r l ih =>
    rw [lf_rank_valid_L0, right_lf, ih, List.all_cons]
    simp only [Option.bind_some]
    cases rightRk r <;> rfl
theorem refValid_lf (l : List S_api_Rank) : lf_constraintref41_valid l = some (l.all rightRk) := by
  rw [lf_constraintref41_valid]
  induction l with
  | nil => rw [lf_constraintref41_valid_L0]; rfl
  | cons r l ih =>
    rw [lf_constraintref41_valid_L0, refRight_lf, ih, List.all_cons]
    simp only [Option.bind_some]
    cases rightRk r <;> rfl

/-! ### the variables of the reference -/
theorem has_L0 (n : Int) : ∀ l : List Int, lf_constraintref03_has_L0 (some false) n l = some (decide (n ∈ l))
  | [] => by rw [lf_constraintref03_has_L0]; rfl
  | x :: l => by
    rw [lf_constraintref03_has_L0, has_L0 n l]
    by_cases h : x = n
    · subst h; simp
    · have h' : n ≠ x := fun e => h e.symm
      rw [beq_false_of_ne h]
      simp [h']
theorem has_lf (l : List Int) (n : Int) : lf_constraintref03_has l n = some (decide (n ∈ l)) := has_L0 n l
theorem refArgs_lf (t : T) : lf_constraintref03_args t = some t.used := by
  rw [lf_constraintref03_args, T.used]
  by_cases h : t.k = 2
  · rw [if_pos h, show (t.k == (2 : Int)) = true by simpa using h]; rfl
  · rw [if_neg h, show (t.k == (2 : Int)) = false by simpa using h]; rfl
theorem vars_L0 {rec : List Int → T → Option (List Int)} (k : List Int → Option (List Int)) : ∀ (ts : List T) (l : List Int) (m : Nat), (∀ t ∈ ts, ∀ l : List Int, l.length + wt t ≤ m → rec l t = some (uniq l (occT t))) → l.length + wtL ts ≤ m → lf_constraintref03_vars_s1_L0 k rec ts l = k (uniq l (occL ts))
  | [], l, m, _, _ => by rw [lf_constraintref03_vars_s1_L0]; simp [occL, uniq_nil]
  | t :: ts, l, m, h, hm => by
    simp only [wtL] at hm
    rw [lf_constraintref03_vars_s1_L0, h t (List.mem_cons_self ..) l (by omega)]
    simp only [Option.bind_some]
    have hl := uniq_len (occT t) l
    have ho := occ_wt t
    rw [vars_L0 k ts _ m (fun u hu => h u (List.mem_cons_of_mem _ hu)) (by omega), ← uniq_app]
    simp [occL]
theorem vars_lf : ∀ (fuel : Nat) (t : T) (l : List Int), wt t < fuel → l.length + wt t ≤ 1000000000 → lf_constraintref03_vars_s1 fuel l t = some (uniq l (occT t))
  | 0, _, _, h, _ => by omega
  | fuel + 1, t, l, h, hm => by
    rw [lf_constraintref03_vars_s1]
    have hwt := wt_eq t
    have key : ∀ l' : List Int, l'.length ≤ l.length + 1 → lf_constraintref03_vars_s1_L0 (fun l_9 => some l_9) (lf_constraintref03_vars_s1 fuel) t.used l' = some (uniq l' (occL t.used)) := fun l' hl' => by
      have hu := wtL_used t
      refine vars_L0 _ t.used l' (l'.length + wtL t.used) (fun u hu' l2 hl2 => vars_lf fuel u l2 ?_ ?_) (Nat.le_refl _)
      · have := wt_used hu'; omega
      · omega
    show lf_constraintref03_vars_s1_J0 _ _ _ = _
    unfold lf_constraintref03_vars_s1_J0
    rw [has_lf]
    simp only [Option.bind_some, refArgs_lf]
    by_cases hk : t.k = 1
    · rw [show (t.k == (1 : Int)) = true by simpa using hk]
      have hused : t.used = [] := by unfold T.used; rw [if_neg (by omega)]
      have hocc := occT_var hk
      simp only [cond_true]
      by_cases hx : t.i ∈ l
      · rw [decide_eq_true hx]
        simp only [Bool.not_true, cond_false]
        rw [key l (by omega), hocc, hused]
        simp [occL, uniq, addU, hx]
      · rw [decide_eq_false hx]
        simp only [Bool.not_false, cond_true]
        rw [appO_eq (by simp; omega) (by simp; omega)]
        simp only [Option.bind_some]
        rw [key _ (by simp), hocc, hused]
        simp [occL, uniq, addU, hx]
    · rw [show (t.k == (1 : Int)) = false by simpa using hk]
      simp only [cond_false]
      rw [key l (by omega), occT_eq hk]
theorem varsOf_L0 (fuel : Nat) (k : List Int → Option (List Int)) : ∀ (ts : List T) (l : List Int), wtL ts < fuel → l.length + wtL ts ≤ 1000000000 → lf_constraintref03_VarsOf_L0 k fuel ts l = k (uniq l (occL ts))
  | [], l, _, _ => by rw [lf_constraintref03_VarsOf_L0]; simp [occL, uniq_nil]
  | t :: ts, l, h, hm => by
    simp only [wtL] at h hm
    rw [lf_constraintref03_VarsOf_L0, vars_lf fuel t l (by omega) (by omega)]
    simp only [Option.bind_some]
    have hl := uniq_len (occT t) l
    have ho := occ_wt t
    rw [varsOf_L0 fuel k ts _ (by omega) (by omega), ← uniq_app]
    simp [occL]
theorem atomVars_lf (fuel : Nat) (a : At) (h : wtL a.ts < fuel) (hm : wtL a.ts ≤ 1000000000) : lf_constraintref03_AtomVars fuel a = some (uniq [] (occL a.ts)) := by
  rw [lf_constraintref03_AtomVars, lf_constraintref03_VarsOf, varsOf_L0 fuel _ a.ts [] h (by simpa using hm)]
  rfl

/-! ### the rank of a constraint -/
/-- The rank over the sizes, from a number on. -/
def measZ : List Int → List T → Int → Int
  | f :: fs, t :: ts, n => measZ fs ts (wr (n + wr (f * (sizeT t : Int))))
  | _, _, n => n
theorem of_L0 (k : Int → Option (Int × Bool)) (r : S_api_Rank × Bool) : ∀ (ts : List T) (n : Int) (i : Nat), (∀ t ∈ ts, wt t ≤ 1000000000) → (r.1.f2_Factors.drop i).length = ts.length → lf_rank_Of_L0 k r ts n i = k (measZ (r.1.f2_Factors.drop i) ts n)
  | [], n, i, _, _ => by rw [lf_rank_Of_L0]; cases r.1.f2_Factors.drop i <;> rfl
  | t :: ts, n, i, hw, hl => by
    have hi : i < r.1.f2_Factors.length := by simp only [List.length_drop, List.length_cons] at hl; omega
    have hd := List.drop_eq_getElem_cons hi
    rw [lf_rank_Of_L0, getI_nat, List.getElem?_eq_getElem hi, x_sizeT_eq t (hw t (List.mem_cons_self ..))]
    simp only [Option.bind_some]
    rw [of_L0 k r ts _ (i + 1) (fun u hu => hw u (List.mem_cons_of_mem _ hu)) (by simp only [List.length_drop, List.length_cons] at hl ⊢; omega), hd]
    rfl
theorem meas_L0 (k : Int → Option Int) (args : List T) : ∀ (fs : List Int) (n : Int) (i : Nat), (∀ t ∈ args, wt t ≤ 1000000000) → fs.length = (args.drop i).length → lf_constraintref41_Measure_L0 k args fs n i = k (measZ fs (args.drop i) n)
  | [], n, i, _, _ => by rw [lf_constraintref41_Measure_L0]; rfl
  | f :: fs, n, i, hw, hl => by
    have hi : i < args.length := by simp only [List.length_drop, List.length_cons] at hl; omega
    have hd := List.drop_eq_getElem_cons hi
    rw [lf_constraintref41_Measure_L0, getI_nat, List.getElem?_eq_getElem hi]
    simp only [Option.bind_some]
    rw [x_sizeT_eq _ (hw _ (List.getElem_mem hi))]
    simp only [Option.bind_some]
    rw [meas_L0 k args fs _ (i + 1) hw (by simp only [List.length_drop, List.length_cons] at hl ⊢; omega), hd]
    rfl
theorem findRk_len {l : List S_api_Rank} {s : ByteArray} {n : Int} (h : (findRk l s n).2 = true) : ((findRk l s n).1.f2_Factors.length : Int) = n ∧ (findRk l s n).1 ∈ l := by
  unfold findRk at h ⊢
  cases e : l.find? (isRk s n) with
  | none => rw [e] at h; cases h
  | some r =>
    have h1 := List.find?_some e
    simp only [isRk, Bool.and_eq_true, beq_iff_eq] at h1
    exact ⟨h1.2, List.mem_of_find?_eq_some e⟩
/-- What Of gives. -/
noncomputable def ofS (l : List S_api_Rank) (a : At) : Int × Bool :=
  if (findRk l a.n (a.ts.length : Int)).2 && rightRk (findRk l a.n (a.ts.length : Int)).1 && rightA a && decide (uniq [] (occL a.ts) = []) then (measZ (findRk l a.n (a.ts.length : Int)).1.f2_Factors a.ts (findRk l a.n (a.ts.length : Int)).1.f1_Const, true) else (0, false)
theorem len_pos (l : List Int) : decide ((l.length : Int) > 0) = !decide (l = []) := by
  cases l with
  | nil => rfl
  | cons a l => simp
theorem of_lf (l : List S_api_Rank) (a : At) (h : Bf a) : lf_rank_Of l a = some (ofS l a) := by
  have hw := h.wt
  rw [lf_rank_Of, find_lf, ofS]
  simp only [Option.bind_some]
  cases h1 : (findRk l a.n (a.ts.length : Int)).2 with
  | false => simp
  | true =>
    simp only [Bool.not_true, cond_false, right_lf, Option.bind_some, Bool.true_and]
    cases h2 : rightRk (findRk l a.n (a.ts.length : Int)).1 with
    | false => simp
    | true =>
      simp only [Bool.not_true, cond_false, x_rightA_eq a (by omega), x_varsA_eq a (by omega), Option.bind_some, Bool.true_and]
      cases h3 : rightA a with
      | false => simp
      | true =>
        simp only [Bool.not_true, cond_false, len_pos, Bool.true_and]
        by_cases h4 : uniq [] (occL a.ts) = []
        · simp only [h4, decide_true, Bool.not_true, cond_false, if_true]
          rw [of_L0 _ _ a.ts _ 0 (fun t ht => by have := h.2 t ht; omega) (by have := (findRk_len h1).1; simp; omega)]
          rfl
        · simp [h4]
theorem measure_lf (l : List S_api_Rank) (a : At) (h : Bf a) (h1 : (findRk l a.n (a.ts.length : Int)).2 = true) : lf_constraintref41_Measure l a.n a.ts = some (measZ (findRk l a.n (a.ts.length : Int)).1.f2_Factors a.ts (findRk l a.n (a.ts.length : Int)).1.f1_Const) := by
  rw [lf_constraintref41_Measure, refFind_lf]
  simp only [Option.bind_some]
  rw [meas_L0 _ a.ts _ _ 0 (fun t ht => by have := h.2 t ht; omega) (by have := (findRk_len h1).1; simp; omega)]
  rfl
theorem refOf_lf (fuel : Nat) (hf : 10001 ≤ fuel) (l : List S_api_Rank) (a : At) (h : Bf a) : lf_constraintref41_Of fuel l a = some (ofS l a) := by
  have hw := h.wt
  rw [lf_constraintref41_Of, refFind_lf, ofS]
  simp only [Option.bind_some, x_rightA_eq a (show wtL a.ts ≤ 1000000000 by omega), atomVars_lf fuel a (by omega) (by omega), len_pos, refRight_lf]
  cases h3 : rightA a with
  | false => simp
  | true =>
    by_cases h4 : uniq [] (occL a.ts) = []
    · simp only [h4, decide_true, Bool.not_true, cond_false]
      cases h1 : (findRk l a.n (a.ts.length : Int)).2 with
      | false => simp
      | true =>
        simp only [Bool.not_true, cond_false]
        cases h2 : rightRk (findRk l a.n (a.ts.length : Int)).1 with
        | false => simp
        | true => rw [measure_lf l a h h1]; simp
    · simp [h4]

/-! ### the sum -/
noncomputable def totZ (ranks : List S_api_Rank) : List At → Int → Int × Int
  | [], n => (n, 0)
  | a :: l, n => if (ofS ranks a).2 then totZ ranks l (wr (n + (ofS ranks a).1)) else (0, if rightA a then if (findRk ranks a.n (a.ts.length : Int)).2 then 17 else 13 else 2)
noncomputable def totS (ranks : List S_api_Rank) (l : List At) : Int × Int := if ranks.all rightRk then totZ ranks l 0 else (0, 2)
theorem total_L0 (ranks : List S_api_Rank) : ∀ (l : List At) (n : Int), (∀ a ∈ l, Bf a) → lf_rank_Total_L0 (fun all_5 => some (all_5, 0)) ranks l n = some (totZ ranks l n)
  | [], n, _ => by rw [lf_rank_Total_L0]; rfl
  | a :: l, n, h => by
    have ha := h a (List.mem_cons_self ..)
    have hw := ha.wt
    rw [lf_rank_Total_L0, of_lf ranks a ha, totZ]
    simp only [Option.bind_some, find_lf, x_rightA_eq a (show wtL a.ts ≤ 1000000000 by omega)]
    cases h1 : (ofS ranks a).2 with
    | true => simpa using total_L0 ranks l _ fun b hb => h b (List.mem_cons_of_mem _ hb)
    | false =>
      cases h2 : rightA a <;> cases h3 : (findRk ranks a.n (a.ts.length : Int)).2 <;> simp
theorem total_lf (ranks : List S_api_Rank) (l : List At) (h : ∀ a ∈ l, Bf a) : lf_rank_Total ranks l = some (totS ranks l) := by
  rw [lf_rank_Total, valid_lf, totS, total_L0 ranks l 0 h]
  simp only [Option.bind_some]
  cases ranks.all rightRk <;> rfl
theorem refTotal_L0 (fuel : Nat) (hf : 10001 ≤ fuel) (ranks : List S_api_Rank) (hv : ranks.all rightRk = true) : ∀ (l : List At) (n : Int), (∀ a ∈ l, Bf a) → lf_constraintref41_Total_L0 (fun n_5 => some (n_5, 0)) fuel ranks l n = some (totZ ranks l n)
  | [], n, _ => by rw [lf_constraintref41_Total_L0]; rfl
  | a :: l, n, h => by
    have ha := h a (List.mem_cons_self ..)
    have hw := ha.wt
    have ih := fun m => refTotal_L0 fuel hf ranks hv l m fun b hb => h b (List.mem_cons_of_mem _ hb)
    rw [lf_constraintref41_Total_L0, totZ, ofS]
    simp only [Option.bind_some, refFind_lf, x_rightA_eq a (show wtL a.ts ≤ 1000000000 by omega), atomVars_lf fuel a (by omega) (by omega), len_pos]
    cases h2 : rightA a with
    | false => simp
    | true =>
      cases h3 : (findRk ranks a.n (a.ts.length : Int)).2 with
      | false => simp
      | true =>
        have hr : rightRk (findRk ranks a.n (a.ts.length : Int)).1 = true := List.all_eq_true.1 hv _ (findRk_len h3).2
        by_cases h4 : uniq [] (occL a.ts) = []
        · rw [measure_lf ranks a ha h3, hr]
          simp [h4, ih]
        · simp [h4, hr]
theorem refTotal_lf (fuel : Nat) (hf : 10001 ≤ fuel) (ranks : List S_api_Rank) (l : List At) (h : ∀ a ∈ l, Bf a) : lf_constraintref41_Total fuel ranks l = some (totS ranks l) := by
  rw [lf_constraintref41_Total, refValid_lf, totS]
  simp only [Option.bind_some]
  cases hv : ranks.all rightRk with
  | false => rfl
  | true => simpa using refTotal_L0 fuel hf ranks hv l 0 h
noncomputable def sumZ (ranks : List S_api_Rank) : List At → Int
  | [] => 0
  | a :: l => (ofS ranks a).1 + sumZ ranks l
theorem sumZ_app (ranks : List S_api_Rank) : ∀ (a b : List At), sumZ ranks (a ++ b) = sumZ ranks a + sumZ ranks b
  | [], b => by simp [sumZ]
  | x :: a, b => by simp only [List.cons_append, sumZ, sumZ_app ranks a b]; omega
theorem totZ_ok (ranks : List S_api_Rank) : ∀ (l : List At) (n : Int), wr n = n → ((totZ ranks l n).2 = 0 ↔ ∀ a ∈ l, (ofS ranks a).2 = true) ∧ ((∀ a ∈ l, (ofS ranks a).2 = true) → (totZ ranks l n).1 = wr (n + sumZ ranks l))
  | [], n, hn => by simp [totZ, sumZ, hn]
  | a :: l, n, hn => by
    rw [totZ, sumZ]
    cases h : (ofS ranks a).2 with
    | true =>
      obtain ⟨h1, h2⟩ := totZ_ok ranks l (wr (n + (ofS ranks a).1)) (wr_wr _)
      refine ⟨by simp [h, h1], fun hall => ?_⟩
      rw [if_pos rfl, h2 fun b hb => hall b (List.mem_cons_of_mem _ hb), wr_addL, Int.add_assoc]
    | false =>
      refine ⟨?_, fun hall => by rw [hall a (List.mem_cons_self ..)] at h; cases h⟩
      simp only [Bool.false_eq_true, if_false, List.mem_cons, forall_eq_or_imp, h, false_and, iff_false]
      split <;> (try split) <;> simp
theorem totS_split (ranks : List S_api_Rank) (a b : List At) (h : (totS ranks (a ++ b)).2 = 0) : (totS ranks (a ++ b)).1 = wr ((totS ranks a).1 + (totS ranks b).1) := by
  unfold totS at h ⊢
  split at h
  · rename_i hv
    simp only [hv, if_true]
    have h0 : wr 0 = 0 := by decide
    obtain ⟨e1, e2⟩ := totZ_ok ranks (a ++ b) 0 h0
    have hall := e1.1 h
    rw [e2 hall, (totZ_ok ranks a 0 h0).2 fun x hx => hall x (List.mem_append_left _ hx), (totZ_ok ranks b 0 h0).2 fun x hx => hall x (List.mem_append_right _ hx), wr_add, sumZ_app]
    congr 1
    omega
  · cases h
end Go.Proofs.Ytnlncgjlhnodgaa


namespace Go.Proofs.Ytnlncgjlhnodgaa
set_option maxRecDepth 100000
open Go.RowKit

theorem permO_nil {Q R : Type} (F : List Q → Option R) : permO F [] = F [] := by
  unfold permO
  rw [if_pos fun l' hp => by rw [hp.eq_nil]]
theorem permO_one {Q R : Type} (F : List Q → Option R) (q : Q) : permO F [q] = F [q] := by
  unfold permO
  rw [if_pos fun l' hp => by rw [List.perm_singleton.1 hp]]

/-! ### the examples -/
def lkV (n : Int) : T := .mk 1 n ⟨#[]⟩ []
def lkF (t : T) : T := .mk 2 0 ⟨#[102]⟩ [t]
def lkP (t : T) : At := ⟨⟨#[112]⟩, [t]⟩
def lkR : S_api_Rank := ⟨⟨#[112]⟩, 0, [1]⟩
theorem lk_f : isName ⟨#[102]⟩ = true := isName_one (by decide)
theorem lk_p : isName ⟨#[112]⟩ = true := isName_one (by decide)
theorem lk_right1 : rightA (lkP (lkV 0)) = true := by simp [rightA, rightL, lkP, lkV, formL, formT, sizeL, sizeT, depthL, depthT, lk_p]
theorem lk_right2 : rightA (lkP (lkV 1)) = true := by simp [rightA, rightL, lkP, lkV, formL, formT, sizeL, sizeT, depthL, depthT, lk_p]
theorem lk_right3 : rightA (lkP (lkF (lkV 0))) = true := by simp [rightA, rightL, lkP, lkV, lkF, formL, formT, sizeL, sizeT, depthL, depthT, lk_p, lk_f]
theorem lk_right4 : rightA (lkP (lkF (.mk 0 7 ⟨#[]⟩ []))) = true := by simp [rightA, rightL, lkP, lkF, formL, formT, sizeL, sizeT, depthL, depthT, lk_p, lk_f]
theorem lk_find : findRk [lkR] ⟨#[112]⟩ 1 = (lkR, true) := by simp [findRk, List.find?, isRk, lkR]
theorem lk_rk : rightRk lkR = true := by decide
theorem lk_bf (t : T) (h : Go.Proofs.Ytnlncgjlhnodgaa.wt t ≤ 1000) : Bf (lkP t) := ⟨by simp [lkP], fun u hu => by simp only [lkP, List.mem_singleton] at hu; subst hu; exact h⟩
theorem lk_of1 : ofS [lkR] (lkP (lkF (.mk 0 7 ⟨#[]⟩ []))) = (2, true) := by
  unfold ofS
  rw [lk_right4]
  simp only [lkP, List.length_singleton, Int.natCast_one, Int.cast_ofNat_Int, lk_find, lk_rk]
  decide
theorem lk_of2 : ofS [lkR] (lkP (lkF (lkV 0))) = (0, false) := by
  unfold ofS
  rw [lk_right3]
  simp only [lkP, List.length_singleton, Int.natCast_one, Int.cast_ofNat_Int, lk_find, lk_rk]
  decide
theorem lk_tot : totS [lkR] [lkP (lkF (lkV 0))] = (0, 17) := by
  simp [totS, lk_rk, totZ, lk_of2, lk_right3]
  simp [lkP, lk_find]
def lkRule (a b : T) (n : Int) : S_api_Rule := ⟨⟨#[]⟩, [], [lkP a], [], [⟨0, ⟨#[112]⟩, [b]⟩], n⟩
theorem lk_vars0 : x_varsA (lkP (lkV 0)) = some [0] := by rw [x_varsA_eq _ (by decide)]; decide
theorem lk_vars1 : x_varsA (lkP (lkV 1)) = some [1] := by rw [x_varsA_eq _ (by decide)]; decide
theorem lk_varsF : x_varsA (lkP (lkF (lkV 0))) = some [0] := by rw [x_varsA_eq _ (by decide)]; decide
theorem lk_variables (a b : T) (n : Int) (h : x_varsA (lkP a) = some [0]) : lf_rank_variables (lkRule a b n) = some ([(0, true)], []) := by
  simp [lf_rank_variables, lf_occur_Heads, lf_occur_count, lkRule, makeO, appO, lf_rank_variables_L0, lf_rank_variables_L2, lf_rank_variables_L3, wr, IntKind.wrap, IntKind.bits, IntKind.signed, h, mputO, mput]
theorem lk_findL : lf_rank_find [lkR] ⟨#[112]⟩ 1 = some (lkR, true) := by rw [find_lf, lk_find]
theorem lk_add (m : Nat) (t : T) (times c : Int) (s : List (Int × Int)) (hr : rightA (lkP t) = true) (hw : Go.Proofs.Ytnlncgjlhnodgaa.wt t ≤ 1000) : lf_Prank_form_add_s1 (m + 20) [lkR] (lkP t) times c s = (lf_Prank_form_size_s1 (m + 20) t (wr (times * 1)) (wr (c + wr (times * 0))) s).bind fun r => some (true, r.1, r.2) := by
  rw [lf_Prank_form_add_s1]
  have h1 : lf_rank_find [lkR] (lkP t).n ((lkP t).ts.length : Int) = some (lkR, true) := lk_findL
  rw [h1]
  simp only [Option.bind_some, right_lf, lk_rk, Bool.not_true, cond_false, x_rightA_eq (lkP t) (by simp only [lkP, wtL]; omega), hr]
  rw [lkP, lf_Prank_form_add_s1_L0]
  simp only [lf_Prank_form_add_s1_L0]
  rfl
theorem lk_sizeV (m : Nat) (n times c : Int) (s : List (Int × Int)) (hs : s.length < 100) : lf_Prank_form_size_s1 (m + 1) (lkV n) times c s = some (c, mput s n (wr (((mget s n).getD 0) + times))) := by
  rw [lf_Prank_form_size_s1]
  simp only [lkV, T.k, T.i, beq_self_eq_true, cond_true, mputO]
  rw [if_pos (by omega)]
  rfl
theorem lk_sizeF (m : Nat) (t : T) (times c : Int) (s : List (Int × Int)) : lf_Prank_form_size_s1 (m + 1) (lkF t) times c s = (lf_Prank_form_size_s1 m t times (wr (c + times)) s).bind fun r => some (r.1, r.2) := by
  rw [lf_Prank_form_size_s1]
  show lf_Prank_form_size_s1_L0 _ _ _ _ _ _ = _
  rw [lkF, T.ar, lf_Prank_form_size_s1_L0]
  rfl
theorem lk_dec (m : Nat) (a b : T) (n : Int) (h : x_varsA (lkP a) = some [0]) (ha : rightA (lkP a) = true) (hb : rightA (lkP b) = true) (hwa : Go.Proofs.Ytnlncgjlhnodgaa.wt a ≤ 1000) (hwb : Go.Proofs.Ytnlncgjlhnodgaa.wt b ≤ 1000) {v : Int} (hv : x_varsA (lkP b) = some [v]) {c1 c2 : Int} {s1 s2 : List (Int × Int)}
    (h1 : lf_Prank_form_size_s1 (m + 20) a 1 0 [] = some (c1, s1)) (h2 : lf_Prank_form_size_s1 (m + 20) b (-1) (wr c1) s1 = some (c2, s2)) :
    lf_rank_Decreases (m + 20) [lkR] (lkRule a b n) = if v = 0 then lf_rank_Decreases_L4 (fun l => bif decide (l ≥ 1) then some true else some false) ([(0, true)], []) s2 c2 else some false := by
  rw [lf_rank_Decreases, lk_variables a b n h]
  simp only [Option.bind_some]
  rw [show (lkRule a b n).f2_Remove = [lkP a] from rfl, show (lkRule a b n).f4_Body = [⟨0, ⟨#[112]⟩, [b]⟩] from rfl, lf_rank_Decreases_L0, lk_add m a 1 0 [] ha hwa]
  rw [show wr (1 * 1) = 1 by decide, show wr (0 + wr (1 * 0)) = 0 by decide, h1]
  simp only [Option.bind_some, Bool.not_true, cond_false, lf_rank_Decreases_L0, lf_rank_Decreases_L1]
  show (x_varsA (lkP b)).bind (fun r_30 => lf_rank_Decreases_L5 ((lf_Prank_form_add_s1 (m+20) [lkR] (lkP b) (-1) c1 s1).bind fun r_32 => bif !r_32.1 then some false else lf_rank_Decreases_L4 (fun l => bif decide (l ≥ 1) then some true else some false) ([(0,true)],[]) r_32.2.2 r_32.2.1) ([(0,true)],[]) r_30) = _
  rw [hv, lk_add m b (-1) c1 s1 hb hwb, show wr (-1 * 1) = -1 by decide, show wr (-1 * 0) = 0 by decide, Int.add_zero, h2]
  simp only [Option.bind_some, lf_rank_Decreases_L5, Bool.not_true, cond_false]
  by_cases h0 : v = 0
  · subst h0
    rw [if_pos rfl]
    rfl
  · rw [if_neg h0]
    have : mget [((0 : Int), true)] v = none := by simp [mget, show ¬ (0 : Int) = v from fun e => h0 e.symm]
    simp only [this]
    rfl
theorem lk_L4 (comp : List (Int × Bool)) (hc : comp = []) (c : Int) : ∀ s : List (Int × Int), s.length ≤ 1 → lf_rank_Decreases_L4 (fun l => bif decide (l ≥ 1) then some true else some false) ([(0, true)], comp) s c = match s with
    | [] => some (decide (c ≥ 1))
    | q :: _ => some (!decide (q.2 < 0) && decide (wr (c + q.2) ≥ 1)) := by
  subst hc
  intro s hs
  match s, hs with
  | [], _ =>
    rw [lf_rank_Decreases_L4, permO_nil, mapLoop, lf_rank_Decreases_L4_E]
    cases decide (c ≥ 1) <;> rfl
  | [q], _ =>
    show _ = some (!decide (q.2 < 0) && decide (wr (c + q.2) ≥ 1))
    rw [lf_rank_Decreases_L4, permO_one, mapLoop, lf_rank_Decreases_L4_B]
    cases h : decide (q.2 < 0) with
    | true => rfl
    | false =>
      simp only [cond_false, Option.bind_some, mapRes, mapLoop, lf_rank_Decreases_L4_E]
      cases decide (wr (c + q.2) ≥ 1) <;> rfl
  | _ :: _ :: _, h => simp at h
theorem lk_down (m : Nat) : lf_rank_Decreases (m + 20) [lkR] (lkRule (lkF (lkV 0)) (lkV 0) 1) = some true := by
  rw [lk_dec m _ _ 1 lk_varsF lk_right3 lk_right1 (by decide) (by decide) lk_vars0 (c1 := 1) (s1 := [(0, 1)]) (c2 := 1) (s2 := [(0, 0)]) (by rw [lk_sizeF, lk_sizeV _ _ _ _ _ (by decide)]; decide) (by rw [lk_sizeV _ _ _ _ _ (by decide)]; decide), if_pos rfl, lk_L4 [] rfl _ _ (by decide)]
  decide
theorem lk_up (m : Nat) : lf_rank_Decreases (m + 20) [lkR] (lkRule (lkV 0) (lkF (lkV 0)) 1) = some false := by
  rw [lk_dec m _ _ 1 lk_vars0 lk_right1 lk_right3 (by decide) (by decide) lk_varsF (c1 := 0) (s1 := [(0, 1)]) (c2 := -1) (s2 := [(0, 0)]) (by rw [lk_sizeV _ _ _ _ _ (by decide)]; decide) (by rw [lk_sizeF, lk_sizeV _ _ _ _ _ (by decide)]; decide), if_pos rfl, lk_L4 [] rfl _ _ (by decide)]
  decide
theorem lk_open (m : Nat) : lf_rank_Decreases (m + 20) [lkR] (lkRule (lkF (lkV 0)) (lkV 1) 2) = some false := by
  rw [lk_dec m _ _ 2 lk_varsF lk_right3 lk_right2 (by decide) (by decide) lk_vars1 (c1 := 1) (s1 := [(0, 1)]) (c2 := 1) (s2 := [(0, 1), (1, -1)]) (by rw [lk_sizeF, lk_sizeV _ _ _ _ _ (by decide)]; decide) (by rw [lk_sizeV _ _ _ _ _ (by decide)]; decide), if_neg (by decide)]
theorem awake_lf (m : Nat) : lf_constraintlaw41_awake (m + 20) = some true := by
  have o1 : lf_rank_Of [(⟨⟨#[112]⟩, 0, [1]⟩ : S_api_Rank)] (⟨⟨#[112]⟩, [(T.mk 2 0 ⟨#[102]⟩ [(T.mk 0 7 ⟨#[]⟩ [])])]⟩ : At) = some (2, true) := (of_lf [lkR] (lkP (lkF (.mk 0 7 ⟨#[]⟩ []))) (lk_bf _ (by decide))).trans (by rw [lk_of1])
  have o2 : lf_rank_Of [(⟨⟨#[112]⟩, 0, [1]⟩ : S_api_Rank)] (⟨⟨#[112]⟩, [(T.mk 2 0 ⟨#[102]⟩ [(T.mk 1 0 ⟨#[]⟩ [])])]⟩ : At) = some (0, false) := (of_lf [lkR] (lkP (lkF (lkV 0))) (lk_bf _ (by decide))).trans (by rw [lk_of2])
  have o3 : lf_rank_Total [(⟨⟨#[112]⟩, 0, [1]⟩ : S_api_Rank)] [(⟨⟨#[112]⟩, [(T.mk 2 0 ⟨#[102]⟩ [(T.mk 1 0 ⟨#[]⟩ [])])]⟩ : At)] = some (0, 17) := (total_lf [lkR] [lkP (lkF (lkV 0))] (fun a ha => by rw [List.mem_singleton.1 ha]; exact lk_bf _ (by decide))).trans (by rw [lk_tot])
  have d1 := lk_down m
  have d2 := lk_up m
  have d3 := lk_open m
  simp only [lkRule, lkP, lkF, lkV, lkR] at d1 d2 d3
  have v1 : lf_rank_valid [(⟨⟨#[112]⟩, 0, [1]⟩ : S_api_Rank)] = some true := (valid_lf [lkR]).trans (by simp [lk_rk])
  have f1 : lf_rank_find [(⟨⟨#[112]⟩, 0, [1]⟩ : S_api_Rank)] ⟨#[112]⟩ 1 = some (lkR, true) := lk_findL
  rw [lf_constraintlaw41_awake, o1, o3]
  simp only [Option.bind_some, show ∀ x : At, getI [x] 0 = some x from fun _ => rfl, o2, d1, d2, d3]
  simp only [lf_rank_Check, lf_rank_Check_L0, lf_rank_Check_L1, v1, f1, d1, d2, Option.bind_some]
  decide

/-! ### the law -/
theorem totals_L0 (fuel : Nat) (hf : 10001 ≤ fuel) (haw : lf_constraintlaw41_awake fuel = some true) (k : Option Bool) : ∀ l : List At, ((∀ a ∈ l, Bf a) → k = some true) → lf_constraintlaw41_RankTotals_L0 k fuel l = some true
  | [], h => by rw [lf_constraintlaw41_RankTotals_L0]; exact h fun _ h => by cases h
  | a :: l, h => by
    obtain ⟨b, e1, e2⟩ := brief_lf fuel (by omega) a
    rw [lf_constraintlaw41_RankTotals_L0, e1, haw]
    simp only [Option.bind_some]
    cases b with
    | false => rfl
    | true =>
      refine totals_L0 fuel hf haw k l fun hl => h fun x hx => ?_
      rcases List.mem_cons.1 hx with rfl | hx
      · exact e2 rfl
      · exact hl x hx
theorem totals_L1 (fuel : Nat) (hf : 10001 ≤ fuel) (ranks : List S_api_Rank) (k : Option Bool) : ∀ l : List At, (∀ a ∈ l, Bf a) → lf_constraintlaw41_RankTotals_L1 k fuel ranks l = k
  | [], _ => by rw [lf_constraintlaw41_RankTotals_L1]
  | a :: l, h => by
    have ha := h a (List.mem_cons_self ..)
    rw [lf_constraintlaw41_RankTotals_L1, of_lf ranks a ha, refOf_lf fuel hf ranks a ha]
    simp only [Option.bind_some]
    rw [totals_L1 fuel hf ranks k l fun b hb => h b (List.mem_cons_of_mem _ hb)]
    cases (ofS ranks a).2 <;> simp
theorem few_lf (l : List S_api_Rank) : ∃ b, lf_constraintlaw41_Few l = some b := by
  rw [lf_constraintlaw41_Few]
  have : ∀ l, ∃ b, lf_constraintlaw41_Few_L0 (some true) l = some b := by
    intro l
    induction l with
    | nil => exact ⟨true, by rw [lf_constraintlaw41_Few_L0]⟩
    | cons r l ih =>
      rw [lf_constraintlaw41_Few_L0]
      cases decide ((r.f2_Factors.length : Int) > 10) with
      | true => exact ⟨false, rfl⟩
      | false => exact ih
  cases decide ((l.length : Int) > 20) with
  | true => exact ⟨false, rfl⟩
  | false => exact this l
theorem totals_lf (fuel : Nat) (hf : 10001 ≤ fuel) (haw : lf_constraintlaw41_awake fuel = some true) (ranks : List S_api_Rank) (l : List At) (k : Int) (hk : 0 ≤ k ∧ k ≤ 255) : lf_constraintlaw41_RankTotals fuel ranks l k = some true := by
  obtain ⟨b, e⟩ := few_lf ranks
  rw [lf_constraintlaw41_RankTotals, e, haw]
  simp only [Option.bind_some]
  cases b with
  | false => rfl
  | true =>
    simp only [Bool.not_true, cond_false]
    by_cases hlen : (l.length : Int) > 40
    · rw [decide_eq_true hlen]; rfl
    · rw [decide_eq_false hlen]
      simp only [cond_false]
      refine totals_L0 fuel hf haw _ l fun hl => ?_
      rw [totals_L1 fuel hf ranks _ l hl, total_lf ranks l hl, refTotal_lf fuel hf ranks l hl]
      simp only [Option.bind_some, bne_self_eq_false, cond_false]
      have hw : IntKind.i64.wrap k = k := wrap64 (by omega)
      obtain ⟨c, hc, hc1⟩ : ∃ c : Nat, min64 (IntKind.i64.wrap k) (l.length : Int) = (c : Int) ∧ c ≤ l.length := by
        rw [hw, min64_eq]
        exact ⟨(min k l.length).toNat, by omega, by omega⟩
      have s1 : subO l 0 (c : Int) = some (l.take c) := by
        rw [subO, if_pos (by omega)]
        simp
      have s2 : subO l (c : Int) (l.length : Int) = some (l.drop c) := by
        rw [subO, if_pos (by omega)]
        simp
      rw [hc, s1, s2]
      simp only [Option.bind_some, total_lf ranks (l.take c) (fun a ha => hl a (List.mem_of_mem_take ha)), total_lf ranks (l.drop c) (fun a ha => hl a (List.mem_of_mem_drop ha))]
      by_cases h0 : (totS ranks l).2 = 0
      · have := totS_split ranks (l.take c) (l.drop c) (by rw [List.take_append_drop]; exact h0)
        rw [List.take_append_drop] at this
        simp [h0, this]
      · rw [show ((totS ranks l).2 != 0) = true from bne_iff_ne.2 h0]; rfl
theorem gives_RankTotals (ranks : List S_api_Rank) (l : List At) (k : Int) (hk : 0 ≤ k ∧ k ≤ 255) : Gives Try.prog 3 [.lst (ranks.map enc_S_api_Rank), .lst (l.map encA), .int .u8 k] (.bool true) :=
  lg_constraintlaw41_RankTotals (20000 + 20) ranks l k true (totals_lf _ (by omega) (awake_lf 20000) ranks l k hk)
end Go.Proofs.Ytnlncgjlhnodgaa


namespace Go.Proofs.Ytnlncgjlhnodgaa
set_option maxRecDepth 100000
open Go.ChangeShapes Go.WideShapes Go.ChangeAt Go.RowKit

theorem own : ownKnob Try.prog.godebug = none := by kernel_rfl
theorem laid_ : laidOutB Try.prog = true := by kernel_rfl

theorem trodAll_grown {H : Type} {enc : TypeId × Value → H} {P : Program} (hl : laidOutB P = true) {W W' : World} (hb : Ext W W') : ∀ {ts : List TypeId} {vs : List Value} {ds : List (DataW H)} {ps : List MemPlace},
    (∀ t ∈ ts, P.readableRec t = true ∧ t < P.types.size) → (∀ x ∈ ps, x.block < W.heap.size) → DataW.TrodAll enc P W 0 (fun _ => true) true ts vs ds ps → DataW.TrodAll enc P W' 0 (fun b => decide (b < W.heap.size)) true ts vs ds ps
  | [], [], [], _, _, _, h => h
  | t :: ts, v :: vs, d :: ds, ps, ht, hlt, h => by
    obtain ⟨p, q, h1, h2, rfl⟩ := h
    refine ⟨p, q, ?_, ?_, rfl⟩
    · exact Below.trod hl (ht t (List.mem_cons_self)).1 (ht t (List.mem_cons_self)).2 h1 hb fun x hx => hlt x (List.mem_append_left _ hx)
    · exact trodAll_grown hl hb (fun t' h' => ht t' (List.mem_cons_of_mem _ h')) (fun x hx => hlt x (List.mem_append_right _ hx)) h2
  | [], [], _ :: _, _, _, _, h => h.elim
  | [], _ :: _, _, _, _, _, h => h.elim
  | _ :: _, [], _, _, _, _, h => h.elim
  | _ :: _, _ :: _, [], _, _, _, h => h.elim

theorem trodAll_len {H : Type} {enc : TypeId × Value → H} {P : Program} {W : World} {base : Nat} {sp : Nat → Bool} {hd : Bool} : ∀ {ts : List TypeId} {vs : List Value} {ds : List (DataW H)} {ps : List MemPlace}, DataW.TrodAll enc P W base sp hd ts vs ds ps → ds.length = ts.length
  | [], [], [], _, _ => rfl
  | _ :: _, _ :: _, _ :: _, _, h => by
    obtain ⟨_, _, _, h2, _⟩ := h
    simp [trodAll_len h2]
  | [], [], _ :: _, _, h => h.elim
  | [], _ :: _, _, _, h => h.elim
  | _ :: _, [], _, _, h => h.elim
  | _ :: _, _ :: _, [], _, h => h.elim

/-- What a law's function gives for each list of arguments. -/
def Holds (k : FuncId) (F : Func) : Prop := ∀ (H : Type) (enc : TypeId × Value → H) (W : World) (base : Nat) (args : Array Value) (ds : List (DataW H)) (p : List MemPlace),
  (∀ (j : Nat) t v, F.params[j]? = some t → args[j]? = some v → Value.okWide Try.prog W .any base t v) → DataW.TrodAll enc Try.prog W 0 (fun _ => true) true F.params.toList args.toList ds p →
  Calls Try.prog k args W (Ret W (Is (.bool true)))

theorem law_contract {k : FuncId} {F : Func} (h : Holds k F) {s : ChangeSpec} (hv : s.vars = [])
    (hts0 : (F.params.toList.all fun t => (Try.prog).readableRec t && decide (t < (Try.prog).types.size)) = true) (hres : F.resultTypes.toList = [4]) (hrs : F.resultTypes.size = 1)
    (hsp : ∀ (H : Type) (ds : List (DataW H)), ds.length = F.params.toList.length → s.fn H ds = { results := [.lit (.bool true)], args := ds })
    {H : Type} {enc : TypeId × Value → H} (W : World) (base : Nat) (args : Array Value) (ds gs : List (DataW H)) (before : List MemPlace)
    (hval : ∀ (j : Nat) t v, F.params[j]? = some t → args[j]? = some v → Value.okWide Try.prog W .any base t v)
    (hW : DataW.Whole enc Try.prog F.params.toList s.vars false W args.toList ds gs before) :
    Calls Try.prog k args W fun e W' => ∃ v, e = .returned v ∧ s.post enc Try.prog F false true false false W args v W' := by
  have hts : ∀ t ∈ F.params.toList, (Try.prog).readableRec t = true ∧ t < (Try.prog).types.size := fun t ht => by
    have := List.all_eq_true.1 hts0 t ht
    simpa using this
  have hW' := hW
  obtain ⟨p, q, hA, hV, rfl, hfz, hnd⟩ := hW
  rw [hv] at hV
  obtain ⟨rfl, rfl⟩ := trodVars_none hV
  refine (h H enc W base args ds p hval hA).mono ?_
  rintro e W' ⟨v, rfl, hvv, hb⟩
  have hvv : v = .bool true := hvv
  subst hvv
  have hlen := trodAll_len hA
  have hspec := hsp H ds hlen
  refine ⟨_, rfl, ds, [], p ++ [], [], p, [], hW', ?_, ?_, ?_, ?_, fun h => by cases h⟩
  · rw [List.append_nil, hspec, hres, hrs]
    exact trodAll_cons_mk (shut_bool Try.underlying4 _) trodAll_mk0
  · rw [List.append_nil, hspec]
    exact trodAll_grown laid_ hb hts (fun x hx => hW'.lt x (by simpa using hx)) hA
  · rw [List.append_nil, hspec, hv]; rfl
  · exact World.keptBut_mono (fun x hx => ⟨by simpa using hx, .inr (.inl (by simpa using hx))⟩) (Below.frame hb (fun x => x ∈ p))
end Go.Proofs.Ytnlncgjlhnodgaa


namespace Go.Proofs.Ytnlncgjlhnodgaa
set_option maxRecDepth 100000
open Go.ChangeShapes Go.WideShapes Go.ChangeAt Go.RowKit

theorem i64_of {n : Int} (h : (Lit.int .i64 n).wf = true) : I64 n := by
  simp [Lit.wf, IntKind.min, IntKind.max, IntKind.signed, IntKind.bits] at h
  unfold I64
  omega
theorem cells_int : (Try.prog).cellsOf 3 = 1 := by kernel_rfl
theorem cells_string : (Try.prog).cellsOf 9 = 1 := by kernel_rfl
theorem cells_terms : (Try.prog).cellsOf 27 = 1 := by kernel_rfl
theorem cells_term : (Try.prog).cellsOf 51 = 4 := by kernel_rfl
theorem cells_goal : (Try.prog).cellsOf 53 = 3 := by kernel_rfl

section
variable {H : Type} {enc : TypeId × Value → H} {W : World} {base : Nat} {sp : Nat → Bool} {hd : Bool}

theorem open_termF : ∀ (fuel : Nat) (cs : List Value) (x : DataW H × List MemPlace), DataW.trod enc Try.prog W base sp hd fuel 51 cs = some x → ∃ t, CT W t cs := by
  intro fuel
  induction fuel using Nat.strongRecOn with
  | _ fuel IH =>
    intro cs x h
    obtain ⟨xs, n, rfl, rfl, hl, hlen, hf⟩ := DataW.trod_struct Try.underlying51 h
    rw [cells_term] at hl
    match xs, hlen, cs, hl with
    | [y0, y1, y2, y3], _, [c0, c1, c2, c3], _ =>
      have g0 := hf 0 _ rfl
      have g1 := hf 1 _ rfl
      have g2 := hf 2 _ rfl
      have g3 := hf 3 _ rfl
      simp [cells_int, cells_string, cells_terms] at g0 g1 g2 g3
      obtain ⟨k, e0, _, w0⟩ := DataW.trod_int Try.underlying3 g0
      obtain ⟨i, e1, _, w1⟩ := DataW.trod_int Try.underlying3 g1
      obtain ⟨s, e2, _, w2⟩ := DataW.trod_string Try.underlying9 g2
      obtain ⟨l, v, e3, h3⟩ := Lay.open_sl (L := layT) Try.underlying27 cells_term (fun m cs x hm h => IH m (by omega) cs x h) g3
      obtain ⟨A, c, zs, rfl, hc1, hc2, hr, hz⟩ := layT_sl.1 h3
      simp only [List.cons.injEq, and_true] at e0 e1 e2 e3
      subst e0 e1 e2 e3
      refine ⟨.mk k i s l, ?_⟩
      simp only [CT]
      exact ⟨A, c, zs, rfl, ⟨i64_of w0, i64_of w1, by unfold maxLen at w2; omega, hc1, hc2⟩, hr, hz⟩
variable {b0 : Nat} {r : Reach} {v : Value} {d : DataW H} {ps : List MemPlace}
end
end Go.Proofs.Ytnlncgjlhnodgaa


namespace Go.Proofs.Ytnlncgjlhnodgaa
set_option maxRecDepth 100000
open Go.ChangeShapes Go.WideShapes Go.ChangeAt Go.RowKit

/-- Every cell that there is. -/
def live (w : World) (a : Addr) : Prop := ∃ v, w.cell? a = some v
theorem live_grow {w w' : World} (e : Ext w w') : Grow (live w) w (live w') w' := fun _ ⟨v, hv⟩ => ⟨⟨v, e.cellOf hv⟩, by rw [hv]; exact e.cellOf hv⟩
/-- A datum of a type, opened. -/
def Op (t : TypeId) (n : Nat) (S : D → Prop) : Prop := ∀ (H : Type) (enc : TypeId × Value → H) (W : World) (base : Nat) (sp : Nat → Bool) (hd : Bool) (fuel : Nat) (cs : List Value) (x : DataW H × List MemPlace),
  DataW.trod enc Try.prog W base sp hd fuel t cs = some x → ∃ d v, S d ∧ d.plain = true ∧ sz d = n ∧ Rep (live W) W d v ∧ cs = v.cells.toList
theorem Op.to {t : TypeId} {n : Nat} {S S' : D → Prop} (h : Op t n S) (k : ∀ d, S d → S' d) : Op t n S' := fun H enc W base sp hd fuel cs x hx => by
  obtain ⟨d, v, h1, h2⟩ := h H enc W base sp hd fuel cs x hx
  exact ⟨d, v, k d h1, h2⟩
theorem op_i64 {t : TypeId} (ht : (Try.prog).underlying t = some (.int .i64)) : Op t 1 fun d => ∃ n, d = .int .i64 n := fun H enc W base sp hd fuel cs x hx => by
  obtain ⟨k, rfl, _, w0⟩ := DataW.trod_int ht hx
  have := i64_of w0
  refine ⟨.int .i64 k, .int .i64 k, ⟨k, rfl⟩, rfl, rfl, ?_, by simp [Value.cells]⟩
  simp only [Rep]
  exact ⟨trivial, wrap64 (by unfold I64 at this; omega)⟩
theorem op_str {t : TypeId} (ht : (Try.prog).underlying t = some .string) : Op t 1 fun d => ∃ s, d = .str s := fun H enc W base sp hd fuel cs x hx => by
  obtain ⟨s, rfl, _, w0⟩ := DataW.trod_string ht hx
  refine ⟨.str s, .string s, ⟨s, rfl⟩, rfl, rfl, ?_, by simp [Value.cells]⟩
  simp only [Rep]
  exact ⟨trivial, by unfold maxLen at w0; omega⟩
/-- One predicate a field. -/
def Fits : List (D → Prop) → List D → Prop
  | [], [] => True
  | S :: ss, d :: ds => S d ∧ Fits ss ds
  | _, _ => False
/-- Fields, one behind the other, from an offset to the end. -/
def tight (P : Program) : Nat → List Field → Bool
  | _, [] => true
  | o, f :: fs => f.offset == o && tight P (o + P.cellsOf f.type) fs
theorem reps_ones {p : Addr → Prop} {w : World} : ∀ {ds : List D} {cs : List Value}, Reps p w ds cs → (∀ d ∈ ds, d.plain = true) → ∀ u ∈ cs, u.oneCell' = true
  | [], cs, h, _, u, hu => by simp only [Reps] at h; subst h; simp at hu
  | d :: ds, cs, h, hp, u, hu => by
    simp only [Reps] at h
    obtain ⟨v, rest, rfl, h1, h2⟩ := h
    rcases List.mem_append.1 hu with hu | hu
    · exact h1.one (hp d (List.mem_cons_self ..)) u hu
    · exact reps_ones h2 (fun e he => hp e (List.mem_cons_of_mem _ he)) u hu
def total (P : Program) : List Field → Nat
  | [] => 0
  | f :: fs => P.cellsOf f.type + total P fs
def Ops : List Field → List (D → Prop) → Prop
  | [], [] => True
  | f :: fs, S :: ss => Op f.type ((Try.prog).cellsOf f.type) S ∧ Ops fs ss
  | _, _ => False
theorem fields_open {H : Type} {enc : TypeId × Value → H} {W : World} {base : Nat} {sp : Nat → Bool} {hd : Bool} {n : Nat} {cs : List Value} :
    ∀ (fs : List Field) (ss : List (D → Prop)) (o : Nat), Ops fs ss → tight Try.prog o fs = true → o + total Try.prog fs = cs.length →
      (∀ (i : Nat) (f : Field), fs[i]? = some f → ∃ x, DataW.trod enc Try.prog W base sp hd n f.type ((cs.drop f.offset).take ((Try.prog).cellsOf f.type)) = some x) →
      ∃ ds, Fits ss ds ∧ (∀ d ∈ ds, d.plain = true) ∧ szs ds = total Try.prog fs ∧ Reps (live W) W ds (cs.drop o)
  | [], [], o, _, _, hl, _ => ⟨[], trivial, by simp, rfl, by simp only [total] at hl; rw [List.drop_eq_nil_of_le (by omega)]; exact Reps.nil _ _⟩
  | f :: fs, S :: ss, o, hop, ht, hl, hx => by
    simp only [tight, Bool.and_eq_true, beq_iff_eq] at ht
    simp only [total] at hl
    obtain ⟨ds, h1, h2, h3, h4⟩ := fields_open fs ss (o + (Try.prog).cellsOf f.type) hop.2 ht.2 (by omega) fun i g hg => hx (i + 1) g hg
    obtain ⟨x, h5⟩ := hx 0 f rfl
    rw [ht.1] at h5
    obtain ⟨d, v, g1, g2, g3, g4, g5⟩ := hop.1 H enc W base sp hd n _ x h5
    refine ⟨d :: ds, ⟨g1, h1⟩, ?_, by simp only [szs, total, g3, h3], ?_⟩
    · intro e he
      rcases List.mem_cons.1 he with rfl | he
      · exact g2
      · exact h2 e he
    · have := Reps.cons g4 h4
      rw [← g5, ← List.drop_drop, List.take_append_drop] at this
      exact this
  | [], _ :: _, _, h, _, _, _ => h.elim
  | _ :: _, [], _, h, _, _, _ => h.elim
theorem op_struct {t : TypeId} {fs : Array Field} {n : Nat} (ht : (Try.prog).underlying t = some (.struct fs)) (ss : List (D → Prop)) (hs : Ops fs.toList ss) (h1 : tight Try.prog 0 fs.toList = true) (h2 : total Try.prog fs.toList = n) (h3 : (Try.prog).cellsOf t = n) :
    Op t n fun d => ∃ ds, d = .agg ds ∧ Fits ss ds := fun H enc W base sp hd fuel cs x hx => by
  obtain ⟨xs, m, _, _, hl, hlen, hf⟩ := DataW.trod_struct ht hx
  obtain ⟨ds, g1, g2, g3, g4⟩ := fields_open (enc := enc) (W := W) (base := base) (sp := sp) (hd := hd) (n := m) (cs := cs) fs.toList ss 0 hs h1 (by omega) fun i f hi => by
    have hi' : fs[i]? = some f := by simpa using hi
    have hlt : i < xs.length := by
      have := (Array.getElem?_eq_some_iff.1 hi').1
      omega
    exact ⟨xs[i], by rw [hf i f hi', List.getElem?_eq_getElem hlt]⟩
  refine ⟨.agg ds, .agg cs.toArray, ⟨ds, rfl, g1⟩, rfl, by simp only [sz]; omega, ?_, by simp [Value.cells]⟩
  simp only [Rep]
  rw [List.drop_zero] at g4
  exact ⟨cs, rfl, g4, reps_ones g4 g2⟩
/-- Data of one size as a layout. -/
def layD (n : Nat) (hn : 0 < n) (S : D → Prop) : Lay D where
  C := fun w d cs => S d ∧ d.plain = true ∧ sz d = n ∧ ∃ v, Rep (live w) w d v ∧ cs = v.cells.toList
  n := n
  pos := hn
  ext := fun ⟨h1, h2, h3, v, h4, h5⟩ e => ⟨h1, h2, h3, v, h4.grow (live_grow e), h5⟩
  len := fun ⟨_, _, h3, v, h4, h5⟩ => by rw [h5, ← h3, ← h4.sz]; simp
  one := fun ⟨_, h2, _, v, h4, h5⟩ u hu => by subst h5; exact h4.one h2 u hu
theorem layD_ls {n : Nat} {hn : 0 < n} {S : D → Prop} {w : World} : ∀ {l : List D} {xs : List Value}, (layD n hn S).Ls w l xs → (∀ d ∈ l, S d ∧ d.plain = true) ∧ Reps (live w) w l xs
  | [], xs, h => by
    have h : xs = [] := h
    subst h
    exact ⟨by simp, Reps.nil _ _⟩
  | d :: l, xs, ⟨cs, ys, h1, ⟨g1, g2, _, v, g4, g5⟩, h3⟩ => by
    obtain ⟨k1, k2⟩ := layD_ls h3
    subst h1 g5
    refine ⟨?_, Reps.cons g4 k2⟩
    intro e he
    rcases List.mem_cons.1 he with rfl | he
    · exact ⟨g1, g2⟩
    · exact k1 e he
theorem rd_live {w : World} {A : Option Addr} {xs : List Value} (h : Rd w A xs) : RdP (live w) w A xs := by
  rcases h with h | ⟨ad, rfl, hc⟩
  · exact .inl h
  · by_cases he : xs = []
    · exact .inl he
    · have hlen : 0 < xs.length := List.length_pos_iff.2 he
      have hsp : ad.spot = none := by
        have := cell_spot (hc 0 _ (List.getElem?_eq_getElem hlen))
        simpa [Addr.add] using this
      obtain ⟨b, o, sp⟩ := ad
      simp only at hsp
      subst hsp
      refine .inr ⟨b, o, rfl, fun j u hu => ?_⟩
      have h1 : w.cell? ⟨b, o + j, none⟩ = some u := by have := hc j u hu; rwa [add_flat] at this
      exact ⟨⟨u, h1⟩, h1⟩
theorem op_slice {t e : TypeId} {n : Nat} {S : D → Prop} (ht : (Try.prog).underlying t = some (.slice e)) (hn : (Try.prog).cellsOf e = n) (hp : 0 < n) (he : Op e n S) : Op t 1 fun d => ∃ l, d = .lst l ∧ ∀ x ∈ l, S x := fun H enc W base sp hd fuel cs x hx => by
  obtain ⟨l, v, rfl, h1⟩ := Lay.open_sl (L := layD n hp S) ht hn (fun m cs x _ h => by
    obtain ⟨d, v, g1, g2, g3, g4, g5⟩ := he H enc W base sp hd m cs x h
    exact ⟨d, g1, g2, g3, v, g4, g5⟩) hx
  obtain ⟨A, c, xs, rfl, h2, h3, h4, h5⟩ := h1
  obtain ⟨h6, h7⟩ := layD_ls h5
  refine ⟨.lst l, .slice A l.length c, ⟨l, rfl, fun d hd => (h6 d hd).1⟩, rfl, rfl, ?_, by simp [Value.cells]⟩
  simp only [Rep]
  exact ⟨A, c, xs, rfl, h2, h3, rd_live h4, h7, reps_ones h7 fun d hd => (h6 d hd).2⟩
/-- A list of data that all show something is the list of what they show. -/
theorem list_img {α : Type} {f : α → D} : ∀ {l : List D}, (∀ x ∈ l, ∃ a, x = f a) → ∃ av : List α, l = av.map f
  | [], _ => ⟨[], rfl⟩
  | d :: l, h => by
    obtain ⟨a, rfl⟩ := h d (List.mem_cons_self ..)
    obtain ⟨av, rfl⟩ := list_img fun x hx => h x (List.mem_cons_of_mem _ hx)
    exact ⟨a :: av, rfl⟩
theorem op_list {α : Type} {f : α → D} {t e : TypeId} {n : Nat} (ht : (Try.prog).underlying t = some (.slice e)) (hn : (Try.prog).cellsOf e = n) (hp : 0 < n) (he : Op e n fun d => ∃ a, d = f a) : Op t 1 fun d => ∃ av : List α, d = .lst (av.map f) :=
  (op_slice ht hn hp he).to fun d ⟨l, hl, h⟩ => by
    obtain ⟨av, rfl⟩ := list_img h
    exact ⟨av, hl⟩

/-! ### terms -/
mutual
theorem rep_ct {w : World} : ∀ {t : T} {cs : List Value}, CT w t cs → Reps (live w) w (fsT t) cs
  | .mk k i s ar, cs, h => by
    simp only [CT] at h
    obtain ⟨A, c, xs, rfl, ⟨h1, h2, h3, h4, h5⟩, h6, h7⟩ := h
    have g := rep_cl h7
    simp only [fsT, Reps, Rep]
    refine ⟨.int .i64 k, _, by simp [Value.cells]; rfl, ⟨rfl, wrap64 (by unfold I64 at h1; omega)⟩, .int .i64 i, _, by simp [Value.cells]; rfl, ⟨rfl, wrap64 (by unfold I64 at h2; omega)⟩, .string s, _, by simp [Value.cells]; rfl, ⟨rfl, h3⟩, .slice A ar.length c, _, by simp [Value.cells], ⟨A, c, xs, ?_, ?_, h5, rd_live h6, g, reps_ones g ?_⟩, rfl⟩
    · rw [encTs_eq]; simp
    · rw [encTs_eq]; simpa using h4
    · rw [encTs_eq]
      intro d hd
      obtain ⟨t, _, rfl⟩ := List.mem_map.1 hd
      rfl
theorem rep_cl {w : World} : ∀ {ts : List T} {xs : List Value}, CL w ts xs → Reps (live w) w (encTs ts) xs
  | [], xs, h => by
    simp only [CL] at h
    subst h
    simp only [encTs, Reps]
  | t :: ts, xs, h => by
    simp only [CL] at h
    obtain ⟨cs, ys, rfl, h1, h2⟩ := h
    have g := rep_ct h1
    simp only [encTs, Reps]
    refine ⟨.agg cs.toArray, ys, by simp [Value.cells], ?_, rep_cl h2⟩
    simp only [Rep]
    exact ⟨cs, rfl, g, reps_ones g fun d hd => by
      rw [fsT_eq] at hd
      simp only [List.mem_cons, List.not_mem_nil, or_false] at hd
      rcases hd with rfl | rfl | rfl | rfl <;> rfl⟩
end
theorem op_term : Op 51 4 fun d => ∃ t, d = encT t := fun H enc W base sp hd fuel cs x hx => by
  obtain ⟨t, ht⟩ := open_termF fuel cs x hx
  have g := rep_ct ht
  refine ⟨encT t, .agg cs.toArray, ⟨t, rfl⟩, rfl, sz_encT t, ?_, by simp [Value.cells]⟩
  simp only [Rep]
  exact ⟨cs, rfl, g, reps_ones g fun d hd => by
    rw [fsT_eq] at hd
    simp only [List.mem_cons, List.not_mem_nil, or_false] at hd
    rcases hd with rfl | rfl | rfl | rfl <;> rfl⟩
theorem op_terms : Op 27 1 fun d => ∃ l : List T, d = .lst (l.map encT) := op_list Try.underlying27 cells_term (by omega) op_term
theorem op_goal : Op 53 3 fun d => ∃ g, d = encG g :=
  (op_struct Try.underlying53 [fun d => ∃ n, d = .int .i64 n, fun d => ∃ s, d = .str s, fun d => ∃ l : List T, d = .lst (l.map encT)] ⟨op_i64 Try.underlying3, op_str Try.underlying9, op_terms, trivial⟩ (by kernel_rfl) (by kernel_rfl) cells_goal).to fun d ⟨ds, hd, h⟩ => by
    match ds, h with
    | [_, _, _], ⟨⟨n, rfl⟩, ⟨s, rfl⟩, ⟨l, rfl⟩, _⟩ => exact ⟨⟨n, s, l⟩, hd⟩
theorem op_ints : Op 47 1 fun d => ∃ l, d = encI l := op_list (f := fun n => .int .i64 n) Try.underlying47 cells_int (by omega) (op_i64 Try.underlying3)

/-! ### a law's arguments -/
/-- The value has the shape of its data. -/
def Cl (t : TypeId) (S : D → Prop) : Prop := ∀ (W : World) (b : Nat) (v : Value), Value.okWide Try.prog W .any b t v → ∀ d, S d → v = reval d v.cells.toList
theorem Cl.to {t : TypeId} {S S' : D → Prop} (h : Cl t S') (k : ∀ d, S d → S' d) : Cl t S := fun W b v hv d hd => h W b v hv d (k d hd)
theorem cl_struct {t : TypeId} {fs : Array Field} (ht : (Try.prog).underlying t = some (.struct fs)) : Cl t fun d => ∃ ds, d = .agg ds := fun W b v hv d ⟨ds, hd⟩ => by
  obtain ⟨cs, rfl, _⟩ := okWide_struct ht hv
  subst hd
  simp [Value.cells, reval]
theorem cl_slice {t e : TypeId} (ht : (Try.prog).underlying t = some (.slice e)) : Cl t fun d => ∃ l, d = .lst l := fun W b v hv d ⟨l, hd⟩ => by
  obtain ⟨a, n, c, rfl⟩ := okWide_slice ht hv
  subst hd
  simp [Value.cells, reval]
structure Arg where
  t : TypeId
  n : Nat
  S : D → Prop
  op : Op t n S
  cl : Cl t S
theorem args_open {H : Type} {enc : TypeId × Value → H} {W : World} {base b : Nat} {sp : Nat → Bool} {hd : Bool} : ∀ (av : List Arg) (vs : List Value) (ds : List (DataW H)) (ps : List MemPlace),
    DataW.TrodAll enc Try.prog W base sp hd (av.map Arg.t) vs ds ps → (∀ (j : Nat) t v, (av.map Arg.t)[j]? = some t → vs[j]? = some v → Value.okWide Try.prog W .any b t v) → ∃ es, Fits (av.map Arg.S) es ∧ Repl (live W) W es vs
  | [], vs, ds, ps, h, _ => by
    obtain ⟨rfl, _, _⟩ := trodAll_nil h
    exact ⟨[], trivial, Repl.nil _ _⟩
  | a :: av, vs, ds, ps, h, hv => by
    obtain ⟨v, vs', d, ds', p, q, rfl, rfl, rfl, ⟨fuel, h1⟩, h2⟩ := trodAll_cons h
    obtain ⟨es, g1, g2⟩ := args_open av vs' ds' q h2 fun j t u ht hu => hv (j + 1) t u ht hu
    obtain ⟨e, u, k1, k2, k3, k4, k5⟩ := a.op H enc W base sp hd fuel _ _ h1
    have e1 := a.cl W b v (hv 0 a.t v rfl rfl) e k1
    have e2 := k4.back
    rw [← k5] at e2
    rw [← e2] at e1
    subst e1
    exact ⟨e :: es, ⟨k1, g1⟩, Repl.cons k4 g2⟩
theorem holds_of {k : FuncId} {F : Func} (av : List Arg) (hp : F.params.toList = av.map Arg.t) (hg : ∀ es, Fits (av.map Arg.S) es → Gives Try.prog k es (.bool true)) : Holds k F := by
  intro H enc W base args ds p hval hA
  rw [hp] at hA
  obtain ⟨es, h1, h2⟩ := args_open (b := base) av args.toList ds p hA fun j t v ht hv => hval j t v (by rw [← Array.getElem?_toList, hp]; exact ht) (by simpa using hv)
  have hI : Inv (ctx W (live W) []) (live W) [] W := ⟨by simp, by simp [blks], by simp [blks], fun a ha => ha, Grow.refl _ _, fun a ha => .inl ha, rfl, rfl, rfl, Nat.le_refl _, fun b _ _ => rfl⟩
  refine (hg es h1 W (live W) args.toList hI h2).mono ?_
  rintro e w' (⟨v, d, σ, q, rfl, rfl, hr, hi⟩ | ⟨_, _, _, _, _, hx, _⟩)
  rotate_left
  · exact hx.elim
  simp only [Rep] at hr
  subst hr
  exact Ret.mk rfl ⟨hi.os, hi.tape, hi.output, hi.size, fun b hb => hi.block b hb (by simp [ctx, blks])⟩
end Go.Proofs.Ytnlncgjlhnodgaa


namespace Go.Proofs.Ytnlncgjlhnodgaa
set_option maxRecDepth 100000
open Go.ChangeShapes Go.WideShapes Go.ChangeAt Go.RowKit

theorem op_u8 {t : TypeId} (ht : (Try.prog).underlying t = some (.int .u8)) : Op t 1 fun d => ∃ n, d = .int .u8 n ∧ 0 ≤ n ∧ n ≤ 255 := fun H enc W base sp hd fuel cs x hx => by
  obtain ⟨k, rfl, _, w0⟩ := DataW.trod_int ht hx
  have hk : 0 ≤ k ∧ k ≤ 255 := by
    have w1 := w0
    simp [Lit.wf, IntKind.min, IntKind.max, IntKind.signed, IntKind.bits] at w1
    omega
  refine ⟨.int .u8 k, .int .u8 k, ⟨k, rfl, hk⟩, rfl, rfl, ?_, by simp [Value.cells]⟩
  simp only [Rep]
  exact ⟨trivial, by simp only [IntKind.wrap, IntKind.bits, IntKind.signed]; simp; omega⟩
theorem cl_u8 {t : TypeId} (ht : (Try.prog).underlying t = some (.int .u8)) : Cl t fun d => ∃ n, d = .int .u8 n := fun W b v hv d ⟨n, hd⟩ => by
  obtain ⟨m, rfl⟩ := okWide_int ht hv
  subst hd
  simp [Value.cells, reval]
theorem op_atom : Op 29 2 fun d => ∃ a, d = encA a :=
  (op_struct Try.underlying29 [fun d => ∃ s, d = .str s, fun d => ∃ l : List T, d = .lst (l.map encT)] ⟨op_str Try.underlying9, op_terms, trivial⟩ (by kernel_rfl) (by kernel_rfl) (by kernel_rfl)).to fun d ⟨ds, hd, h⟩ => by
    match ds, h with
    | [_, _], ⟨⟨s, rfl⟩, ⟨l, rfl⟩, _⟩ => exact ⟨⟨s, l⟩, hd⟩
theorem op_atoms : Op 23 1 fun d => ∃ l : List At, d = .lst (l.map encA) := op_list Try.underlying23 (by kernel_rfl) (by omega) op_atom
theorem op_goals : Op 36 1 fun d => ∃ l : List Gl, d = .lst (l.map encG) := op_list Try.underlying36 cells_goal (by omega) op_goal
theorem op_rank : Op 49 3 fun d => ∃ r, d = enc_S_api_Rank r :=
  (op_struct Try.underlying49 [fun d => ∃ s, d = .str s, fun d => ∃ n, d = .int .i64 n, fun d => ∃ l : List Int, d = .lst (l.map (D.int .i64))] ⟨op_str Try.underlying9, op_i64 Try.underlying3, op_ints, trivial⟩ (by kernel_rfl) (by kernel_rfl) (by kernel_rfl)).to fun d ⟨ds, hd, h⟩ => by
    match ds, h with
    | [_, _, _], ⟨⟨s, rfl⟩, ⟨n, rfl⟩, ⟨l, rfl⟩, _⟩ => exact ⟨⟨s, n, l⟩, hd⟩
theorem op_ranks : Op 22 1 fun d => ∃ l : List S_api_Rank, d = .lst (l.map enc_S_api_Rank) := op_list Try.underlying22 (by kernel_rfl) (by omega) op_rank
theorem op_rule : Op 38 6 fun d => ∃ r, d = enc_S_api_Rule r :=
  (op_struct Try.underlying38 [fun d => ∃ s, d = .str s, fun d => ∃ l : List At, d = .lst (l.map encA), fun d => ∃ l : List At, d = .lst (l.map encA), fun d => ∃ l : List Gl, d = .lst (l.map encG), fun d => ∃ l : List Gl, d = .lst (l.map encG), fun d => ∃ n, d = .int .i64 n] ⟨op_str Try.underlying9, op_atoms, op_atoms, op_goals, op_goals, op_i64 Try.underlying3, trivial⟩ (by kernel_rfl) (by kernel_rfl) (by kernel_rfl)).to fun d ⟨ds, hd, h⟩ => by
    match ds, h with
    | [_, _, _, _, _, _], ⟨⟨s, rfl⟩, ⟨a, rfl⟩, ⟨b, rfl⟩, ⟨c, rfl⟩, ⟨e, rfl⟩, ⟨n, rfl⟩, _⟩ => exact ⟨⟨s, a, b, c, e, n⟩, hd⟩
theorem op_rules : Op 42 1 fun d => ∃ l : List S_api_Rule, d = .lst (l.map enc_S_api_Rule) := op_list Try.underlying42 (by kernel_rfl) (by omega) op_rule
theorem op_decl : Op 55 2 fun d => ∃ q, d = enc_S_api_Decl q :=
  (op_struct Try.underlying55 [fun d => ∃ s, d = .str s, fun d => ∃ n, d = .int .i64 n] ⟨op_str Try.underlying9, op_i64 Try.underlying3, trivial⟩ (by kernel_rfl) (by kernel_rfl) (by kernel_rfl)).to fun d ⟨ds, hd, h⟩ => by
    match ds, h with
    | [_, _], ⟨⟨s, rfl⟩, ⟨n, rfl⟩, _⟩ => exact ⟨⟨s, n⟩, hd⟩
theorem op_decls : Op 41 1 fun d => ∃ l : List S_api_Decl, d = .lst (l.map enc_S_api_Decl) := op_list Try.underlying41 (by kernel_rfl) (by omega) op_decl
theorem op_program : Op 44 2 fun d => ∃ q, d = enc_S_api_Program q :=
  (op_struct Try.underlying44 [fun d => ∃ l : List S_api_Decl, d = .lst (l.map enc_S_api_Decl), fun d => ∃ l : List S_api_Rule, d = .lst (l.map enc_S_api_Rule)] ⟨op_decls, op_rules, trivial⟩ (by kernel_rfl) (by kernel_rfl) (by kernel_rfl)).to fun d ⟨ds, hd, h⟩ => by
    match ds, h with
    | [_, _], ⟨⟨s, rfl⟩, ⟨n, rfl⟩, _⟩ => exact ⟨⟨s, n⟩, hd⟩
def aRanks : Arg := ⟨_, _, _, op_ranks, (cl_slice Try.underlying22).to fun _ ⟨_, h⟩ => ⟨_, h⟩⟩
def aAtoms : Arg := ⟨_, _, _, op_atoms, (cl_slice Try.underlying23).to fun _ ⟨_, h⟩ => ⟨_, h⟩⟩
def aRule : Arg := ⟨_, _, _, op_rule, (cl_struct Try.underlying38).to fun _ ⟨_, h⟩ => ⟨_, h⟩⟩
def aProgram : Arg := ⟨_, _, _, op_program, (cl_struct Try.underlying44).to fun _ ⟨_, h⟩ => ⟨_, h⟩⟩
def aU8 : Arg := ⟨_, _, _, op_u8 Try.underlying5, (cl_u8 Try.underlying5).to fun _ ⟨_, h, _⟩ => ⟨_, h⟩⟩
end Go.Proofs.Ytnlncgjlhnodgaa

