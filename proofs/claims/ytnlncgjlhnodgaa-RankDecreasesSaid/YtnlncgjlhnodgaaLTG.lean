/-
  Texts of the seat, merged.
-/
import Derived.Test.YtnlncgjlhnodgaaLTA
import Derived.Test.YtnlncgjlhnodgaaLTB
import Derived.Test.YtnlncgjlhnodgaaLTC
import Derived.Test.YtnlncgjlhnodgaaLTD
import Derived.Test.YtnlncgjlhnodgaaLTE
import Derived.Test.YtnlncgjlhnodgaaLTF
import Derived.Test.YtnlncgjlhnodgaaChecked
import Derived.WalkKit
import Derived.Lib.Hide
import Derived.Lib.AppendStr
import Derived.Deep.AppendLies
import Derived.Deep.AppendSrc
import Derived.Deep.Draws
import Derived.Deep.QuietTactic
import Derived.BigQuiet
import Derived.Deep.RegionWith
import Derived.Maps.AppendAt
import Derived.WalkSpells
import Derived.Orders
import Derived.Deep.Slices
import Derived.Deep.Fields
import Derived.ChangeArms
import Derived.Lib.OthersKept
import Derived.Lib.TrimU
import Derived.Lib.IndexAny
import Derived.Deep.LoopGhost
import Derived.Lib.Bytealg
import Derived.RangeFuncBox
import Derived.RangeFuncNested
import Derived.RangeFuncBound
import Derived.RangeFuncCalls
import Derived.RangeFuncLeaves
import Derived.Shelf.Abstract
import Derived.OwnWalkIn
import Derived.TacticsInMore
import Derived.LoopNIn
import Derived.LoopIn
import Derived.RangeFuncWrites
import Derived.Maps.OwnIn
import Derived.Maps.Views
import Derived.Laws.OwnMore
import Derived.Maps.OwnSet
import Derived.Test.YtnlncgjlhnodgaaRows
import Derived.ProofKit
import Derived.OpenShut
import Derived.Carry
import Derived.Great.BuildSlice
import Derived.ArgAppend
import Derived.Laws.MakeOwn
import Derived.Laws.Cover3
import Derived.Laws.CopyRow
import Derived.MapKept
import Derived.Maps.RangeRun
import Derived.ChangeSlices
set_option linter.unusedVariables false
set_option linter.unusedSimpArgs false
set_option linter.unnecessarySimpa false
set_option linter.all false

namespace Go.Proofs.Ytnlncgjlhnodgaa
set_option maxRecDepth 100000
open Go.RowKit

/-! ### numbers that wrap -/
theorem wr_addL (a b : Int) : wr (wr a + b) = wr (a + b) := by
  simp only [wr, IntKind.wrap, IntKind.bits, IntKind.signed]
  simp
  split <;> split <;> split <;> omega
theorem wr_addR (a b : Int) : wr (a + wr b) = wr (a + b) := by rw [Int.add_comm, wr_addL, Int.add_comm]
theorem wr_wr (a : Int) : wr (wr a) = wr a := wrap_idem _ _

/-! ### the weight of what is small -/
theorem left_L0 {rec : T → Int → Int → Option Int} {d0 d : Int} (hd : wr (d0 - 1) = d) (hr : ∀ (t : T) (n : Int), 0 ≤ n → n ≤ 1000 → ∃ r, rec t n d = some r ∧ r ≤ n ∧ (0 ≤ r → (wt t : Int) + r ≤ n)) :
    ∀ (l : List T) (n : Int), 0 ≤ n → n ≤ 1000 → ∃ r, lf_constraintlaw04_left_L0 (fun n_5 => some n_5) rec d0 l n = some r ∧ r ≤ n ∧ (0 ≤ r → (wtL l : Int) + r ≤ n)
  | [], n, h0, h1 => ⟨n, by rw [lf_constraintlaw04_left_L0], by omega, fun _ => by simp [wtL]⟩
  | t :: l, n, h0, h1 => by
    obtain ⟨r, e1, e2, e3⟩ := hr t n h0 h1
    rw [lf_constraintlaw04_left_L0, hd, e1]
    simp only [Option.bind_some]
    by_cases hneg : r < 0
    · rw [decide_eq_true hneg]
      exact ⟨-1, rfl, by omega, fun h => by omega⟩
    · rw [decide_eq_false hneg]
      obtain ⟨r', f1, f2, f3⟩ := left_L0 hd hr l r (by omega) (by omega)
      refine ⟨r', f1, by omega, fun h => ?_⟩
      have := e3 (by omega)
      have := f3 h
      simp only [wtL]
      omega
theorem left_lf : ∀ (fuel : Nat) (t : T) (n d : Int), 0 ≤ n → n ≤ 1000 → 0 ≤ d → d < fuel → d ≤ 1000 → ∃ r, lf_constraintlaw04_left fuel t n d = some r ∧ r ≤ n ∧ (0 ≤ r → (wt t : Int) + r ≤ n)
  | 0, _, _, _, _, _, h, h', _ => by omega
  | fuel + 1, t, n, d, h0, h1, h2, h3, h4 => by
    rw [lf_constraintlaw04_left]
    by_cases hd : d < 1
    · rw [decide_eq_true hd]
      exact ⟨-1, rfl, by omega, fun h => by omega⟩
    · rw [decide_eq_false hd]
      simp only [cond_false]
      have hn : wr (n - 1) = n - 1 := wr_eq (by omega)
      rw [hn]
      by_cases hz : n - 1 < 0
      · rw [decide_eq_true hz]
        exact ⟨-1, rfl, by omega, fun h => by omega⟩
      · rw [decide_eq_false hz]
        simp only [cond_false]
        have hdd : wr (d - 1) = d - 1 := wr_eq (by omega)
        obtain ⟨r, e1, e2, e3⟩ := left_L0 hdd (fun t n g0 g1 => left_lf fuel t n (d - 1) g0 g1 (by omega) (by omega) (by omega)) t.ar (n - 1) (by omega) (by omega)
        refine ⟨r, e1, by omega, fun h => ?_⟩
        have := e3 h
        rw [wt_eq]
        omega
/-- A constraint with few small arguments. -/
def Bf (a : At) : Prop := a.ts.length ≤ 10 ∧ ∀ t ∈ a.ts, wt t ≤ 1000
theorem Bf.wt {a : At} (h : Bf a) : wtL a.ts ≤ 10000 := by
  have : ∀ l : List T, (∀ t ∈ l, Go.Proofs.Ytnlncgjlhnodgaa.wt t ≤ 1000) → wtL l ≤ 1000 * l.length := by
    intro l
    induction l with
    | nil => intro _; simp [wtL]
    | cons t l ih =>
      intro h
      have h1 := h t (List.mem_cons_self ..)
      have h2 := ih fun u hu => h u (List.mem_cons_of_mem _ hu)
      simp only [wtL, List.length_cons]
      omega
  have := this a.ts h.2
  have := h.1
  omega
theorem small_lf (fuel : Nat) (hf : 200 ≤ fuel) (t : T) : ∃ b, lf_constraintlaw04_Small fuel t = some b ∧ (b = true → wt t ≤ 1000) := by
  obtain ⟨r, e1, _, e3⟩ := left_lf fuel t 1000 100 (by omega) (by omega) (by omega) (by omega) (by omega)
  refine ⟨decide (r ≥ 0), by rw [lf_constraintlaw04_Small, e1]; rfl, fun h => ?_⟩
  have := e3 (of_decide_eq_true h)
  have := of_decide_eq_true h
  omega
theorem brief_L0 (fuel : Nat) (hf : 200 ≤ fuel) : ∀ l : List T, ∃ b, lf_constraintlaw19_Brief_L0 (some true) fuel l = some b ∧ (b = true → ∀ t ∈ l, wt t ≤ 1000)
  | [] => ⟨true, by rw [lf_constraintlaw19_Brief_L0], fun _ t h => by cases h⟩
  | t :: l => by
    obtain ⟨b, e1, e2⟩ := small_lf fuel hf t
    rw [lf_constraintlaw19_Brief_L0, e1]
    simp only [Option.bind_some]
    cases b with
    | false => exact ⟨false, rfl, fun h => by cases h⟩
    | true =>
      obtain ⟨c, f1, f2⟩ := brief_L0 fuel hf l
      refine ⟨c, f1, fun h u hu => ?_⟩
      rcases List.mem_cons.1 hu with rfl | hu
      · exact e2 rfl
      · exact f2 h u hu
theorem brief_lf (fuel : Nat) (hf : 200 ≤ fuel) (a : At) : ∃ b, lf_constraintlaw19_Brief fuel a = some b ∧ (b = true → Bf a) := by
  rw [lf_constraintlaw19_Brief]
  by_cases h : (a.ts.length : Int) > 10
  · rw [decide_eq_true h]
    exact ⟨false, rfl, fun h => by cases h⟩
  · rw [decide_eq_false h]
    obtain ⟨b, e1, e2⟩ := brief_L0 fuel hf a.ts
    exact ⟨b, e1, fun hb => ⟨by omega, e2 hb⟩⟩

/-! ### rankings -/
def isRk (s : ByteArray) (n : Int) (r : S_api_Rank) : Bool := (r.f0_Name.toList == s.toList) && ((r.f2_Factors.length : Int) == n)
def findRk (l : List S_api_Rank) (s : ByteArray) (n : Int) : S_api_Rank × Bool := match l.find? (isRk s n) with
  | some r => (r, true)
  | none => (⟨⟨#[]⟩, 0, []⟩, false)
theorem refFind_lf (s : ByteArray) (n : Int) : ∀ l, lf_constraintref41_find l s n = some (findRk l s n) := by
  intro l
  rw [lf_constraintref41_find]
  induction l with
  | nil => rw [lf_constraintref41_find_L0]; rfl
  | cons r l ih =>
    rw [lf_constraintref41_find_L0, ih]
    cases h1 : (r.f0_Name.toList == s.toList) <;> cases h2 : ((r.f2_Factors.length : Int) == n) <;> simp [findRk, List.find?, isRk, h1, h2]
theorem find1_lf (s : ByteArray) (n : Int) (r : S_api_Rank) : lf_rank_find_1 r s n = some (isRk s n r) := by
  rw [lf_rank_find_1, isRk]
  cases h1 : (r.f0_Name.toList == s.toList) <;> rfl
theorem index1_lf (s : ByteArray) (n : Int) : ∀ (l : List S_api_Rank) (i : Nat), (l.find? (isRk s n) = none ∧ lf_slices_IndexFunc_s1_L0 (some (-1)) s n l i = some (-1)) ∨ ∃ j r, l.find? (isRk s n) = some r ∧ l[j]? = some r ∧ lf_slices_IndexFunc_s1_L0 (some (-1)) s n l i = some ((i + j : Nat) : Int)
  | [], i => .inl ⟨rfl, by rw [lf_slices_IndexFunc_s1_L0]⟩
  | r :: l, i => by
    rw [lf_slices_IndexFunc_s1_L0, find1_lf]
    simp only [Option.bind_some, List.find?]
    cases h : isRk s n r with
    | true => exact .inr ⟨0, r, rfl, rfl, rfl⟩
    | false =>
      rcases index1_lf s n l (i + 1) with ⟨e1, e2⟩ | ⟨j, q, e1, e2, e3⟩
      · exact .inl ⟨e1, e2⟩
      · exact .inr ⟨j + 1, q, e1, by simpa using e2, by rw [show i + (j + 1) = i + 1 + j by omega]; exact e3⟩
theorem find_lf (l : List S_api_Rank) (s : ByteArray) (n : Int) : lf_rank_find l s n = some (findRk l s n) := by
  rw [lf_rank_find, lf_slices_IndexFunc_s1, findRk]
  rcases index1_lf s n l 0 with ⟨e1, e2⟩ | ⟨j, q, e1, e2, e3⟩
  · rw [e2, e1]; rfl
  · rw [e3, e1]
    simp only [Option.bind_some, Nat.zero_add]
    rw [decide_eq_false (by omega), getI_nat, e2]
    rfl
def inRk (n : Int) : Bool := decide (0 ≤ n ∧ n ≤ 1048576)
def rightRk (r : S_api_Rank) : Bool := inRk r.f1_Const && decide (r.f2_Factors.length ≤ 6) && r.f2_Factors.all inRk
theorem bad_lf (n : Int) : lf_rank_right_1 n = some (!inRk n) := by
  rw [lf_rank_right_1, inRk]
  by_cases h : n < 0
  · rw [decide_eq_true h, decide_eq_false (show ¬ (0 ≤ n ∧ n ≤ 1048576) by omega)]; rfl
  · rw [decide_eq_false h]
    by_cases h2 : n > 1048576
    · rw [decide_eq_true h2, decide_eq_false (show ¬ (0 ≤ n ∧ n ≤ 1048576) by omega)]; rfl
    · rw [decide_eq_false h2, decide_eq_true (show 0 ≤ n ∧ n ≤ 1048576 by omega)]; rfl
theorem index2_lf : ∀ (l : List Int) (i : Nat), ∃ r, lf_slices_IndexFunc_s2_L0 (some (-1)) l i = some r ∧ (decide (r ≥ 0) = !l.all inRk)
  | [], i => ⟨-1, by rw [lf_slices_IndexFunc_s2_L0], rfl⟩
  | n :: l, i => by
    rw [lf_slices_IndexFunc_s2_L0, bad_lf]
    simp only [Option.bind_some, List.all_cons]
    cases h : inRk n with
    | false => exact ⟨(i : Int), rfl, by simp⟩
    | true =>
      obtain ⟨r, e1, e2⟩ := index2_lf l (i + 1)
      exact ⟨r, e1, by simpa using e2⟩
theorem right_lf (r : S_api_Rank) : lf_rank_right r = some (rightRk r) := by
  rw [lf_rank_right, bad_lf, rightRk]
  simp only [Option.bind_some, Bool.not_not]
  cases h : inRk r.f1_Const with
  | false => rfl
  | true =>
    by_cases h2 : (r.f2_Factors.length : Int) ≤ 6
    · rw [decide_eq_true h2, decide_eq_true (show r.f2_Factors.length ≤ 6 by omega), lf_slices_ContainsFunc_s1, lf_slices_IndexFunc_s2]
      obtain ⟨q, e1, e2⟩ := index2_lf r.f2_Factors 0
      rw [e1]
      simp [e2]
    · rw [decide_eq_false h2, decide_eq_false (show ¬ r.f2_Factors.length ≤ 6 by omega)]
      simp
theorem refRight_L0 : ∀ l : List Int, lf_constraintref41_right_L0 (some true) l = some (l.all inRk)
  | [] => by rw [lf_constraintref41_right_L0]; rfl
  | n :: l => by
    rw [lf_constraintref41_right_L0, refRight_L0 l, List.all_cons, inRk]
    by_cases h : n < 0
    · rw [decide_eq_true h, decide_eq_false (show ¬ (0 ≤ n ∧ n ≤ 1048576) by omega)]; rfl
    · rw [decide_eq_false h]
      by_cases h2 : n > 1048576
      · rw [decide_eq_true h2, decide_eq_false (show ¬ (0 ≤ n ∧ n ≤ 1048576) by omega)]; rfl
      · rw [decide_eq_false h2, decide_eq_true (show 0 ≤ n ∧ n ≤ 1048576 by omega)]; rfl
theorem refRight_lf (r : S_api_Rank) : lf_constraintref41_right r = some (rightRk r) := by
  rw [lf_constraintref41_right, refRight_L0, rightRk, inRk]
  by_cases h : r.f1_Const < 0
  · rw [decide_eq_true h, decide_eq_false (show ¬ (0 ≤ r.f1_Const ∧ r.f1_Const ≤ 1048576) by omega)]; rfl
  · rw [decide_eq_false h]
    by_cases h2 : r.f1_Const > 1048576
    · rw [decide_eq_true h2, decide_eq_false (show ¬ (0 ≤ r.f1_Const ∧ r.f1_Const ≤ 1048576) by omega)]; rfl
    · rw [decide_eq_false h2, decide_eq_true (show 0 ≤ r.f1_Const ∧ r.f1_Const ≤ 1048576 by omega)]
      by_cases h3 : (r.f2_Factors.length : Int) > 6
      · rw [decide_eq_true h3, decide_eq_false (show ¬ r.f2_Factors.length ≤ 6 by omega)]; rfl
      · rw [decide_eq_false h3, decide_eq_true (show r.f2_Factors.length ≤ 6 by omega)]; rfl
theorem valid_lf (l : List S_api_Rank) : lf_rank_valid l = some (l.all rightRk) := by
  rw [lf_rank_valid]
  induction l with
  | nil => rw [lf_rank_valid_L0]; rfl
  | cons r l ih =>
    rw [lf_rank_valid_L0, right_lf, ih, List.all_cons]
    simp only [Option.bind_some]
    cases rightRk r <;> rfl
theorem refValid_lf (l : List S_api_Rank) : lf_constraintref41_valid l = some (l.all rightRk) := by
  rw [lf_constraintref41_valid]
  induction l with
  | nil => rw [lf_constraintref41_valid_L0]; rfl
  | cons r l ih =>
    rw [lf_constraintref41_valid_L0, refRight_lf, ih, List.all_cons]
    simp only [Option.bind_some]
    cases rightRk r <;> rfl

/-! ### the variables of the reference -/
theorem has_L0 (n : Int) : ∀ l : List Int, lf_constraintref03_has_L0 (some false) n l = some (decide (n ∈ l))
  | [] => by rw [lf_constraintref03_has_L0]; rfl
  | x :: l => by
    rw [lf_constraintref03_has_L0, has_L0 n l]
    by_cases h : x = n
    · subst h; simp
    · have h' : n ≠ x := fun e => h e.symm
      rw [beq_false_of_ne h]
      simp [h']
theorem has_lf (l : List Int) (n : Int) : lf_constraintref03_has l n = some (decide (n ∈ l)) := has_L0 n l
theorem refArgs_lf (t : T) : lf_constraintref03_args t = some t.used := by
  rw [lf_constraintref03_args, T.used]
  by_cases h : t.k = 2
  · rw [if_pos h, show (t.k == (2 : Int)) = true by simpa using h]; rfl
  · rw [if_neg h, show (t.k == (2 : Int)) = false by simpa using h]; rfl
theorem vars_L0 {rec : List Int → T → Option (List Int)} (k : List Int → Option (List Int)) : ∀ (ts : List T) (l : List Int) (m : Nat), (∀ t ∈ ts, ∀ l : List Int, l.length + wt t ≤ m → rec l t = some (uniq l (occT t))) → l.length + wtL ts ≤ m → lf_constraintref03_vars_s1_L0 k rec ts l = k (uniq l (occL ts))
  | [], l, m, _, _ => by rw [lf_constraintref03_vars_s1_L0]; simp [occL, uniq_nil]
  | t :: ts, l, m, h, hm => by
    simp only [wtL] at hm
    rw [lf_constraintref03_vars_s1_L0, h t (List.mem_cons_self ..) l (by omega)]
    simp only [Option.bind_some]
    have hl := uniq_len (occT t) l
    have ho := occ_wt t
    rw [vars_L0 k ts _ m (fun u hu => h u (List.mem_cons_of_mem _ hu)) (by omega), ← uniq_app]
    simp [occL]
theorem vars_lf : ∀ (fuel : Nat) (t : T) (l : List Int), wt t < fuel → l.length + wt t ≤ 1000000000 → lf_constraintref03_vars_s1 fuel l t = some (uniq l (occT t))
  | 0, _, _, h, _ => by omega
  | fuel + 1, t, l, h, hm => by
    rw [lf_constraintref03_vars_s1]
    have hwt := wt_eq t
    have key : ∀ l' : List Int, l'.length ≤ l.length + 1 → lf_constraintref03_vars_s1_L0 (fun l_9 => some l_9) (lf_constraintref03_vars_s1 fuel) t.used l' = some (uniq l' (occL t.used)) := fun l' hl' => by
      have hu := wtL_used t
      refine vars_L0 _ t.used l' (l'.length + wtL t.used) (fun u hu' l2 hl2 => vars_lf fuel u l2 ?_ ?_) (Nat.le_refl _)
      · have := wt_used hu'; omega
      · omega
    show lf_constraintref03_vars_s1_J0 _ _ _ = _
    unfold lf_constraintref03_vars_s1_J0
    rw [has_lf]
    simp only [Option.bind_some, refArgs_lf]
    by_cases hk : t.k = 1
    · rw [show (t.k == (1 : Int)) = true by simpa using hk]
      have hused : t.used = [] := by unfold T.used; rw [if_neg (by omega)]
      have hocc := occT_var hk
      simp only [cond_true]
      by_cases hx : t.i ∈ l
      · rw [decide_eq_true hx]
        simp only [Bool.not_true, cond_false]
        rw [key l (by omega), hocc, hused]
        simp [occL, uniq, addU, hx]
      · rw [decide_eq_false hx]
        simp only [Bool.not_false, cond_true]
        rw [appO_eq (by simp; omega) (by simp; omega)]
        simp only [Option.bind_some]
        rw [key _ (by simp), hocc, hused]
        simp [occL, uniq, addU, hx]
    · rw [show (t.k == (1 : Int)) = false by simpa using hk]
      simp only [cond_false]
      rw [key l (by omega), occT_eq hk]
theorem varsOf_L0 (fuel : Nat) (k : List Int → Option (List Int)) : ∀ (ts : List T) (l : List Int), wtL ts < fuel → l.length + wtL ts ≤ 1000000000 → lf_constraintref03_VarsOf_L0 k fuel ts l = k (uniq l (occL ts))
  | [], l, _, _ => by rw [lf_constraintref03_VarsOf_L0]; simp [occL, uniq_nil]
  | t :: ts, l, h, hm => by
    simp only [wtL] at h hm
    rw [lf_constraintref03_VarsOf_L0, vars_lf fuel t l (by omega) (by omega)]
    simp only [Option.bind_some]
    have hl := uniq_len (occT t) l
    have ho := occ_wt t
    rw [varsOf_L0 fuel k ts _ (by omega) (by omega), ← uniq_app]
    simp [occL]
theorem atomVars_lf (fuel : Nat) (a : At) (h : wtL a.ts < fuel) (hm : wtL a.ts ≤ 1000000000) : lf_constraintref03_AtomVars fuel a = some (uniq [] (occL a.ts)) := by
  rw [lf_constraintref03_AtomVars, lf_constraintref03_VarsOf, varsOf_L0 fuel _ a.ts [] h (by simpa using hm)]
  rfl

/-! ### the rank of a constraint -/
/-- The rank over the sizes, from a number on. -/
def measZ : List Int → List T → Int → Int
  | f :: fs, t :: ts, n => measZ fs ts (wr (n + wr (f * (sizeT t : Int))))
  | _, _, n => n
theorem of_L0 (k : Int → Option (Int × Bool)) (r : S_api_Rank × Bool) : ∀ (ts : List T) (n : Int) (i : Nat), (∀ t ∈ ts, wt t ≤ 1000000000) → (r.1.f2_Factors.drop i).length = ts.length → lf_rank_Of_L0 k r ts n i = k (measZ (r.1.f2_Factors.drop i) ts n)
  | [], n, i, _, _ => by rw [lf_rank_Of_L0]; cases r.1.f2_Factors.drop i <;> rfl
  | t :: ts, n, i, hw, hl => by
    have hi : i < r.1.f2_Factors.length := by simp only [List.length_drop, List.length_cons] at hl; omega
    have hd := List.drop_eq_getElem_cons hi
    rw [lf_rank_Of_L0, getI_nat, List.getElem?_eq_getElem hi, x_sizeT_eq t (hw t (List.mem_cons_self ..))]
    simp only [Option.bind_some]
    rw [of_L0 k r ts _ (i + 1) (fun u hu => hw u (List.mem_cons_of_mem _ hu)) (by simp only [List.length_drop, List.length_cons] at hl ⊢; omega), hd]
    rfl
theorem findRk_len {l : List S_api_Rank} {s : ByteArray} {n : Int} (h : (findRk l s n).2 = true) : ((findRk l s n).1.f2_Factors.length : Int) = n ∧ (findRk l s n).1 ∈ l := by
  unfold findRk at h ⊢
  cases e : l.find? (isRk s n) with
  | none => rw [e] at h; cases h
  | some r =>
    have h1 := List.find?_some e
    simp only [isRk, Bool.and_eq_true, beq_iff_eq] at h1
    exact ⟨h1.2, List.mem_of_find?_eq_some e⟩
/-- What Of gives. -/
noncomputable def ofS (l : List S_api_Rank) (a : At) : Int × Bool :=
  if (findRk l a.n (a.ts.length : Int)).2 && rightRk (findRk l a.n (a.ts.length : Int)).1 && rightA a && decide (uniq [] (occL a.ts) = []) then (measZ (findRk l a.n (a.ts.length : Int)).1.f2_Factors a.ts (findRk l a.n (a.ts.length : Int)).1.f1_Const, true) else (0, false)
theorem len_pos (l : List Int) : decide ((l.length : Int) > 0) = !decide (l = []) := by
  cases l with
  | nil => rfl
  | cons a l => simp
theorem of_lf (l : List S_api_Rank) (a : At) (h : Bf a) : lf_rank_Of l a = some (ofS l a) := by
  have hw := h.wt
  rw [lf_rank_Of, find_lf, ofS]
  simp only [Option.bind_some]
  cases h1 : (findRk l a.n (a.ts.length : Int)).2 with
  | false => simp
  | true =>
    simp only [Bool.not_true, cond_false, right_lf, Option.bind_some, Bool.true_and]
    cases h2 : rightRk (findRk l a.n (a.ts.length : Int)).1 with
    | false => simp
    | true =>
      simp only [Bool.not_true, cond_false, x_rightA_eq a (by omega), x_varsA_eq a (by omega), Option.bind_some, Bool.true_and]
      cases h3 : rightA a with
      | false => simp
      | true =>
        simp only [Bool.not_true, cond_false, len_pos, Bool.true_and]
        by_cases h4 : uniq [] (occL a.ts) = []
        · simp only [h4, decide_true, Bool.not_true, cond_false, if_true]
          rw [of_L0 _ _ a.ts _ 0 (fun t ht => by have := h.2 t ht; omega) (by have := (findRk_len h1).1; simp; omega)]
          rfl
        · simp [h4]
/-! ### the sum -/
noncomputable def totZ (ranks : List S_api_Rank) : List At → Int → Int × Int
  | [], n => (n, 0)
  | a :: l, n => if (ofS ranks a).2 then totZ ranks l (wr (n + (ofS ranks a).1)) else (0, if rightA a then if (findRk ranks a.n (a.ts.length : Int)).2 then 17 else 13 else 2)
noncomputable def totS (ranks : List S_api_Rank) (l : List At) : Int × Int := if ranks.all rightRk then totZ ranks l 0 else (0, 2)
theorem total_L0 (ranks : List S_api_Rank) : ∀ (l : List At) (n : Int), (∀ a ∈ l, Bf a) → lf_rank_Total_L0 (fun all_5 => some (all_5, 0)) ranks l n = some (totZ ranks l n)
  | [], n, _ => by rw [lf_rank_Total_L0]; rfl
  | a :: l, n, h => by
    have ha := h a (List.mem_cons_self ..)
    have hw := ha.wt
    rw [lf_rank_Total_L0, of_lf ranks a ha, totZ]
    simp only [Option.bind_some, find_lf, x_rightA_eq a (show wtL a.ts ≤ 1000000000 by omega)]
    cases h1 : (ofS ranks a).2 with
    | true => simpa using total_L0 ranks l _ fun b hb => h b (List.mem_cons_of_mem _ hb)
    | false =>
      cases h2 : rightA a <;> cases h3 : (findRk ranks a.n (a.ts.length : Int)).2 <;> simp
theorem total_lf (ranks : List S_api_Rank) (l : List At) (h : ∀ a ∈ l, Bf a) : lf_rank_Total ranks l = some (totS ranks l) := by
  rw [lf_rank_Total, valid_lf, totS, total_L0 ranks l 0 h]
  simp only [Option.bind_some]
  cases ranks.all rightRk <;> rfl
end Go.Proofs.Ytnlncgjlhnodgaa


namespace Go.Proofs.Ytnlncgjlhnodgaa
set_option maxRecDepth 100000
open Go.RowKit

theorem permO_nil {Q R : Type} (F : List Q → Option R) : permO F [] = F [] := by
  unfold permO
  rw [if_pos fun l' hp => by rw [hp.eq_nil]]
theorem permO_one {Q R : Type} (F : List Q → Option R) (q : Q) : permO F [q] = F [q] := by
  unfold permO
  rw [if_pos fun l' hp => by rw [List.perm_singleton.1 hp]]

/-! ### the examples -/
def lkV (n : Int) : T := .mk 1 n ⟨#[]⟩ []
def lkF (t : T) : T := .mk 2 0 ⟨#[102]⟩ [t]
def lkP (t : T) : At := ⟨⟨#[112]⟩, [t]⟩
def lkR : S_api_Rank := ⟨⟨#[112]⟩, 0, [1]⟩
theorem lk_f : isName ⟨#[102]⟩ = true := isName_one (by decide)
theorem lk_p : isName ⟨#[112]⟩ = true := isName_one (by decide)
theorem lk_right1 : rightA (lkP (lkV 0)) = true := by simp [rightA, rightL, lkP, lkV, formL, formT, sizeL, sizeT, depthL, depthT, lk_p]
theorem lk_right2 : rightA (lkP (lkV 1)) = true := by simp [rightA, rightL, lkP, lkV, formL, formT, sizeL, sizeT, depthL, depthT, lk_p]
theorem lk_right3 : rightA (lkP (lkF (lkV 0))) = true := by simp [rightA, rightL, lkP, lkV, lkF, formL, formT, sizeL, sizeT, depthL, depthT, lk_p, lk_f]
theorem lk_right4 : rightA (lkP (lkF (.mk 0 7 ⟨#[]⟩ []))) = true := by simp [rightA, rightL, lkP, lkF, formL, formT, sizeL, sizeT, depthL, depthT, lk_p, lk_f]
theorem lk_find : findRk [lkR] ⟨#[112]⟩ 1 = (lkR, true) := by simp [findRk, List.find?, isRk, lkR]
theorem lk_rk : rightRk lkR = true := by decide
theorem lk_bf (t : T) (h : Go.Proofs.Ytnlncgjlhnodgaa.wt t ≤ 1000) : Bf (lkP t) := ⟨by simp [lkP], fun u hu => by simp only [lkP, List.mem_singleton] at hu; subst hu; exact h⟩
theorem lk_of1 : ofS [lkR] (lkP (lkF (.mk 0 7 ⟨#[]⟩ []))) = (2, true) := by
  unfold ofS
  rw [lk_right4]
  simp only [lkP, List.length_singleton, Int.natCast_one, Int.cast_ofNat_Int, lk_find, lk_rk]
  decide
theorem lk_of2 : ofS [lkR] (lkP (lkF (lkV 0))) = (0, false) := by
  unfold ofS
  rw [lk_right3]
  simp only [lkP, List.length_singleton, Int.natCast_one, Int.cast_ofNat_Int, lk_find, lk_rk]
  decide
theorem lk_tot : totS [lkR] [lkP (lkF (lkV 0))] = (0, 17) := by
  simp [totS, lk_rk, totZ, lk_of2, lk_right3]
  simp [lkP, lk_find]
def lkRule (a b : T) (n : Int) : S_api_Rule := ⟨⟨#[]⟩, [], [lkP a], [], [⟨0, ⟨#[112]⟩, [b]⟩], n⟩
theorem lk_vars0 : x_varsA (lkP (lkV 0)) = some [0] := by rw [x_varsA_eq _ (by decide)]; decide
theorem lk_vars1 : x_varsA (lkP (lkV 1)) = some [1] := by rw [x_varsA_eq _ (by decide)]; decide
theorem lk_varsF : x_varsA (lkP (lkF (lkV 0))) = some [0] := by rw [x_varsA_eq _ (by decide)]; decide
theorem lk_variables (a b : T) (n : Int) (h : x_varsA (lkP a) = some [0]) : lf_rank_variables (lkRule a b n) = some ([(0, true)], []) := by
  simp [lf_rank_variables, lf_occur_Heads, lf_occur_count, lkRule, makeO, appO, lf_rank_variables_L0, lf_rank_variables_L1, lf_rank_variables_L2, wr, IntKind.wrap, IntKind.bits, IntKind.signed, h, mputO, mput]
theorem lk_findL : lf_rank_find [lkR] ⟨#[112]⟩ 1 = some (lkR, true) := by rw [find_lf, lk_find]
theorem lk_add (m : Nat) (t : T) (times c : Int) (s : List (Int × Int)) (hr : rightA (lkP t) = true) (hw : Go.Proofs.Ytnlncgjlhnodgaa.wt t ≤ 1000) : lf_Prank_form_add_s1 (m + 20) [lkR] (lkP t) times c s = (lf_Prank_form_size_s1 (m + 20) t (wr (times * 1)) (wr (c + wr (times * 0))) s).bind fun r => some (true, r.1, r.2) := by
  rw [lf_Prank_form_add_s1]
  have h1 : lf_rank_find [lkR] (lkP t).n ((lkP t).ts.length : Int) = some (lkR, true) := lk_findL
  rw [h1]
  simp only [Option.bind_some, right_lf, lk_rk, Bool.not_true, cond_false, x_rightA_eq (lkP t) (by simp only [lkP, wtL]; omega), hr]
  rw [lkP, lf_Prank_form_add_s1_L0]
  simp only [lf_Prank_form_add_s1_L0]
  rfl
theorem lk_sizeV (m : Nat) (n times c : Int) (s : List (Int × Int)) (hs : s.length < 100) : lf_Prank_form_size_s1 (m + 1) (lkV n) times c s = some (c, mput s n (wr (((mget s n).getD 0) + times))) := by
  rw [lf_Prank_form_size_s1]
  simp only [lkV, T.k, T.i, beq_self_eq_true, cond_true, mputO]
  rw [if_pos (by omega)]
  rfl
theorem lk_sizeF (m : Nat) (t : T) (times c : Int) (s : List (Int × Int)) : lf_Prank_form_size_s1 (m + 1) (lkF t) times c s = (lf_Prank_form_size_s1 m t times (wr (c + times)) s).bind fun r => some (r.1, r.2) := by
  rw [lf_Prank_form_size_s1]
  show lf_Prank_form_size_s1_L0 _ _ _ _ _ _ = _
  rw [lkF, T.ar, lf_Prank_form_size_s1_L0]
  rfl
theorem lk_dec (m : Nat) (a b : T) (n : Int) (h : x_varsA (lkP a) = some [0]) (ha : rightA (lkP a) = true) (hb : rightA (lkP b) = true) (hwa : Go.Proofs.Ytnlncgjlhnodgaa.wt a ≤ 1000) (hwb : Go.Proofs.Ytnlncgjlhnodgaa.wt b ≤ 1000) {v : Int} (hv : x_varsA (lkP b) = some [v]) {c1 c2 : Int} {s1 s2 : List (Int × Int)}
    (h1 : lf_Prank_form_size_s1 (m + 20) a 1 0 [] = some (c1, s1)) (h2 : lf_Prank_form_size_s1 (m + 20) b (-1) (wr c1) s1 = some (c2, s2)) :
    lf_rank_Decreases (m + 20) [lkR] (lkRule a b n) = if v = 0 then lf_rank_Decreases_L2 (fun l => bif decide (l ≥ 1) then some true else some false) ([(0, true)], []) s2 c2 else some false := by
  rw [lf_rank_Decreases, lk_variables a b n h]
  simp only [Option.bind_some]
  rw [show (lkRule a b n).f2_Remove = [lkP a] from rfl, show (lkRule a b n).f4_Body = [⟨0, ⟨#[112]⟩, [b]⟩] from rfl, lf_rank_Decreases_L0, lk_add m a 1 0 [] ha hwa]
  rw [show wr (1 * 1) = 1 by decide, show wr (0 + wr (1 * 0)) = 0 by decide, h1]
  simp only [Option.bind_some, Bool.not_true, cond_false, lf_rank_Decreases_L0, lf_rank_Decreases_L1]
  show (x_varsA (lkP b)).bind (fun r_30 => lf_rank_Decreases_L3 ((lf_Prank_form_add_s1 (m+20) [lkR] (lkP b) (-1) c1 s1).bind fun r_32 => bif !r_32.1 then some false else lf_rank_Decreases_L2 (fun l => bif decide (l ≥ 1) then some true else some false) ([(0,true)],[]) r_32.2.2 r_32.2.1) ([(0,true)],[]) r_30) = _
  rw [hv, lk_add m b (-1) c1 s1 hb hwb, show wr (-1 * 1) = -1 by decide, show wr (-1 * 0) = 0 by decide, Int.add_zero, h2]
  simp only [Option.bind_some, lf_rank_Decreases_L3, Bool.not_true, cond_false]
  by_cases h0 : v = 0
  · subst h0
    rw [if_pos rfl]
    rfl
  · rw [if_neg h0]
    have : mget [((0 : Int), true)] v = none := by simp [mget, show ¬ (0 : Int) = v from fun e => h0 e.symm]
    simp only [this]
    rfl
theorem lk_L4 (comp : List (Int × Bool)) (hc : comp = []) (c : Int) : ∀ s : List (Int × Int), s.length ≤ 1 → lf_rank_Decreases_L2 (fun l => bif decide (l ≥ 1) then some true else some false) ([(0, true)], comp) s c = match s with
    | [] => some (decide (c ≥ 1))
    | q :: _ => some (!decide (q.2 < 0) && decide (wr (c + q.2) ≥ 1)) := by
  subst hc
  intro s hs
  match s, hs with
  | [], _ =>
    rw [lf_rank_Decreases_L2, permO_nil, mapLoop, lf_rank_Decreases_L2_E]
    cases decide (c ≥ 1) <;> rfl
  | [q], _ =>
    show _ = some (!decide (q.2 < 0) && decide (wr (c + q.2) ≥ 1))
    rw [lf_rank_Decreases_L2, permO_one, mapLoop, lf_rank_Decreases_L2_B]
    cases h : decide (q.2 < 0) with
    | true => rfl
    | false =>
      simp only [cond_false, Option.bind_some, mapRes, mapLoop, lf_rank_Decreases_L2_E]
      cases decide (wr (c + q.2) ≥ 1) <;> rfl
  | _ :: _ :: _, h => simp at h
theorem lk_down (m : Nat) : lf_rank_Decreases (m + 20) [lkR] (lkRule (lkF (lkV 0)) (lkV 0) 1) = some true := by
  rw [lk_dec m _ _ 1 lk_varsF lk_right3 lk_right1 (by decide) (by decide) lk_vars0 (c1 := 1) (s1 := [(0, 1)]) (c2 := 1) (s2 := [(0, 0)]) (by rw [lk_sizeF, lk_sizeV _ _ _ _ _ (by decide)]; decide) (by rw [lk_sizeV _ _ _ _ _ (by decide)]; decide), if_pos rfl, lk_L4 [] rfl _ _ (by decide)]
  decide
theorem lk_up (m : Nat) : lf_rank_Decreases (m + 20) [lkR] (lkRule (lkV 0) (lkF (lkV 0)) 1) = some false := by
  rw [lk_dec m _ _ 1 lk_vars0 lk_right1 lk_right3 (by decide) (by decide) lk_varsF (c1 := 0) (s1 := [(0, 1)]) (c2 := -1) (s2 := [(0, 0)]) (by rw [lk_sizeV _ _ _ _ _ (by decide)]; decide) (by rw [lk_sizeF, lk_sizeV _ _ _ _ _ (by decide)]; decide), if_pos rfl, lk_L4 [] rfl _ _ (by decide)]
  decide
theorem lk_open (m : Nat) : lf_rank_Decreases (m + 20) [lkR] (lkRule (lkF (lkV 0)) (lkV 1) 2) = some false := by
  rw [lk_dec m _ _ 2 lk_varsF lk_right3 lk_right2 (by decide) (by decide) lk_vars1 (c1 := 1) (s1 := [(0, 1)]) (c2 := 1) (s2 := [(0, 1), (1, -1)]) (by rw [lk_sizeF, lk_sizeV _ _ _ _ _ (by decide)]; decide) (by rw [lk_sizeV _ _ _ _ _ (by decide)]; decide), if_neg (by decide)]
theorem awake_lf (m : Nat) : lf_constraintlaw41_awake (m + 20) = some true := by
  have o1 : lf_rank_Of [(⟨⟨#[112]⟩, 0, [1]⟩ : S_api_Rank)] (⟨⟨#[112]⟩, [(T.mk 2 0 ⟨#[102]⟩ [(T.mk 0 7 ⟨#[]⟩ [])])]⟩ : At) = some (2, true) := (of_lf [lkR] (lkP (lkF (.mk 0 7 ⟨#[]⟩ []))) (lk_bf _ (by decide))).trans (by rw [lk_of1])
  have o2 : lf_rank_Of [(⟨⟨#[112]⟩, 0, [1]⟩ : S_api_Rank)] (⟨⟨#[112]⟩, [(T.mk 2 0 ⟨#[102]⟩ [(T.mk 1 0 ⟨#[]⟩ [])])]⟩ : At) = some (0, false) := (of_lf [lkR] (lkP (lkF (lkV 0))) (lk_bf _ (by decide))).trans (by rw [lk_of2])
  have o3 : lf_rank_Total [(⟨⟨#[112]⟩, 0, [1]⟩ : S_api_Rank)] [(⟨⟨#[112]⟩, [(T.mk 2 0 ⟨#[102]⟩ [(T.mk 1 0 ⟨#[]⟩ [])])]⟩ : At)] = some (0, 17) := (total_lf [lkR] [lkP (lkF (lkV 0))] (fun a ha => by rw [List.mem_singleton.1 ha]; exact lk_bf _ (by decide))).trans (by rw [lk_tot])
  have d1 := lk_down m
  have d2 := lk_up m
  have d3 := lk_open m
  simp only [lkRule, lkP, lkF, lkV, lkR] at d1 d2 d3
  have v1 : lf_rank_valid [(⟨⟨#[112]⟩, 0, [1]⟩ : S_api_Rank)] = some true := (valid_lf [lkR]).trans (by simp [lk_rk])
  have f1 : lf_rank_find [(⟨⟨#[112]⟩, 0, [1]⟩ : S_api_Rank)] ⟨#[112]⟩ 1 = some (lkR, true) := lk_findL
  rw [lf_constraintlaw41_awake, o1, o3]
  simp only [Option.bind_some, show ∀ x : At, getI [x] 0 = some x from fun _ => rfl, o2, d1, d2, d3]
  simp only [lf_rank_Check, lf_rank_Check_L0, lf_rank_Check_L1, v1, f1, d1, d2, Option.bind_some]
  decide

/-! ### the law -/
theorem few_lf (l : List S_api_Rank) : ∃ b, lf_constraintlaw41_Few l = some b := by
  rw [lf_constraintlaw41_Few]
  have : ∀ l, ∃ b, lf_constraintlaw41_Few_L0 (some true) l = some b := by
    intro l
    induction l with
    | nil => exact ⟨true, by rw [lf_constraintlaw41_Few_L0]⟩
    | cons r l ih =>
      rw [lf_constraintlaw41_Few_L0]
      cases decide ((r.f2_Factors.length : Int) > 10) with
      | true => exact ⟨false, rfl⟩
      | false => exact ih
  cases decide ((l.length : Int) > 20) with
  | true => exact ⟨false, rfl⟩
  | false => exact this l
end Go.Proofs.Ytnlncgjlhnodgaa


namespace Go.Proofs.Ytnlncgjlhnodgaa
set_option maxRecDepth 100000
open Go.RowKit

/-! ### maps in the order of insertion -/
theorem filter_mput (p : Int → Bool) : ∀ (m : List (Int × Int)) (v d : Int), (mput m v d).filter (fun q => p q.1) = if p v = true then mput (m.filter fun q => p q.1) v d else m.filter fun q => p q.1
  | [], v, d => by cases h : p v <;> simp [mput, h]
  | q :: m, v, d => by
    simp only [mput]
    by_cases hq : q.1 = v
    · rw [if_pos hq]
      cases h : p v with
      | true => simp [h, hq, mput]
      | false => simp [h, hq]
    · rw [if_neg hq]
      have ih := filter_mput p m v d
      cases hp : p q.1 with
      | true =>
        rw [List.filter_cons_of_pos (by exact hp), ih, List.filter_cons_of_pos (by exact hp)]
        cases h : p v with
        | true => simp [mput, hq]
        | false => simp
      | false =>
        rw [List.filter_cons_of_neg (by simp [hp]), ih, List.filter_cons_of_neg (by simp [hp])]
theorem mget_filter (p : Int → Bool) (v : Int) (h : p v = true) : ∀ m : List (Int × Int), mget (m.filter fun q => p q.1) v = mget m v
  | [] => rfl
  | q :: m => by
    cases hp : p q.1 with
    | true =>
      rw [List.filter_cons_of_pos (by exact hp)]
      simp only [mget, mget_filter p v h m]
    | false =>
      rw [List.filter_cons_of_neg (by simp [hp]), mget_filter p v h m, mget, if_neg (fun e => by rw [e, h] at hp; cases hp)]
def sumV : List (Int × Int) → Int
  | [] => 0
  | q :: m => q.2 + sumV m
theorem sum_mput (v τ : Int) : ∀ (m : List (Int × Int)) (x : Int), wr (x + sumV (mput m v (wr ((mget m v).getD 0 + τ)))) = wr (x + sumV m + τ)
  | [], x => by simp only [mput, mget, sumV, Option.getD_none, Int.zero_add, Int.add_zero]; rw [wr_addR]
  | q :: m, x => by
    simp only [mput, mget]
    split
    · simp only [Option.getD_some, sumV]
      rw [show x + (wr (q.2 + τ) + sumV m) = wr (q.2 + τ) + (x + sumV m) by omega, wr_addL]
      congr 1; omega
    · simp only [sumV]
      rw [← Int.add_assoc, sum_mput v τ m (x + q.2), Int.add_assoc x q.2]
theorem sum_split (p : Int → Bool) : ∀ m : List (Int × Int), sumV m = sumV (m.filter fun q => p q.1) + sumV (m.filter fun q => !p q.1)
  | [] => rfl
  | q :: m => by
    have ih := sum_split p m
    cases hp : p q.1 with
    | true => rw [List.filter_cons_of_pos (by exact hp), List.filter_cons_of_neg (by simp [hp])]; simp only [sumV]; omega
    | false => rw [List.filter_cons_of_neg (by simp [hp]), List.filter_cons_of_pos (by simp [hp])]; simp only [sumV]; omega

/-! ### the reference's lists -/
theorem find2_L2 (c0 : Int) (V F : List Int) (τ : Int) (t : T) (hτ : wr τ = τ) : ∀ (z1 z2 : List (Int × Int)), V = (z1 ++ z2).map (·.1) → F = (z1 ++ z2).map (·.2) →
    lf_Pconstraintref41_form_add_s1_L2 (some (c0, ((z1 ++ z2) ++ [(t.i, τ)]).map (·.1), ((z1 ++ z2) ++ [(t.i, τ)]).map (·.2))) c0 V F τ t (z2.map (·.1)) z1.length = some (c0, (z1 ++ mput z2 t.i (wr ((mget z2 t.i).getD 0 + τ))).map (·.1), (z1 ++ mput z2 t.i (wr ((mget z2 t.i).getD 0 + τ))).map (·.2))
  | z1, [], hV, hF => by
    simp only [List.map_nil]
    rw [lf_Pconstraintref41_form_add_s1_L2]
    simp [mput, mget, hτ]
  | z1, q :: z2, hV, hF => by
    simp only [List.map_cons]
    rw [lf_Pconstraintref41_form_add_s1_L2]
    by_cases hq : q.1 = t.i
    · rw [show (q.1 == t.i) = true by simpa using hq]
      have hg : getI F (z1.length : Int) = some q.2 := by rw [getI_nat, hF]; simp
      have hset : F.set z1.length (wr (q.2 + τ)) = (z1 ++ (q.1, wr (q.2 + τ)) :: z2).map (·.2) := by rw [hF]; simp
      simp only [cond_true, hg, Option.bind_some, mput, mget, hq, if_true, Option.getD_some, Int.toNat_natCast, hset, hV]
      simp [hq]
    · rw [show (q.1 == t.i) = false by simpa using hq]
      have ih := find2_L2 c0 V F τ t hτ (z1 ++ [q]) z2 (by rw [hV]; simp) (by rw [hF]; simp)
      simp only [List.append_assoc, List.singleton_append, List.length_append, List.length_singleton] at ih
      simp only [cond_false, mput, mget, if_neg hq, List.append_assoc]
      exact ih
theorem in_lf (l : List Int) (n : Int) : lf_constraintref41_in l n = some (decide (n ∈ l)) := by
  rw [lf_constraintref41_in]
  induction l with
  | nil => rw [lf_constraintref41_in_L0]; rfl
  | cons x l ih =>
    rw [lf_constraintref41_in_L0, ih]
    by_cases h : x = n
    · subst h; simp
    · have h' : n ≠ x := fun e => h e.symm
      rw [beq_false_of_ne h]
      simp [h']

/-! ### a term -/
mutual
/-- A variable has no arguments. -/
def NV : T → Prop
  | .mk k _ _ ar => (k = 1 → ar = []) ∧ NVL ar
def NVL : List T → Prop
  | [] => True
  | t :: ts => NV t ∧ NVL ts
end
theorem NV.ar {t : T} (h : NV t) : NVL t.ar := by cases t; simp only [NV] at h; exact h.2
theorem NV.var {t : T} (h : NV t) (hk : t.k = 1) : t.ar = [] := by cases t; simp only [NV] at h; exact h.1 hk
mutual
theorem nv_form : ∀ (t : T), formT t = true → NV t
  | .mk k i s ar, h => by
    simp only [formT] at h
    simp only [NV]
    split at h
    · rename_i hk
      obtain ⟨_, _, _, h4⟩ := of_decide_eq_true h
      obtain rfl := List.eq_nil_of_length_eq_zero h4
      exact ⟨fun _ => rfl, trivial⟩
    · split at h
      · obtain ⟨_, _, _, h4⟩ := of_decide_eq_true h
        obtain rfl := List.eq_nil_of_length_eq_zero h4
        exact ⟨fun _ => rfl, trivial⟩
      · split at h
        · rename_i h1 h2
          simp only [Bool.and_eq_true] at h
          exact ⟨fun e => absurd e (by omega), nvl_form ar h.2⟩
        · cases h
theorem nvl_form : ∀ (l : List T), formL l = true → NVL l
  | [], _ => trivial
  | t :: l, h => by
    simp only [formL, Bool.and_eq_true] at h
    exact ⟨nv_form t h.1, nvl_form l h.2⟩
end
/-- The program's state and the reference's. -/
def InvF (ones : List Int) (c : Int) (m : List (Int × Int)) (c2 : Int) (V F : List Int) : Prop :=
  wr c = c ∧ V = (m.filter fun q => !decide (q.1 ∈ ones)).map (·.1) ∧ F = (m.filter fun q => !decide (q.1 ∈ ones)).map (·.2) ∧ c2 = wr (c + sumV (m.filter fun q => decide (q.1 ∈ ones)))
theorem invF_const {ones : List Int} {c c2 τ : Int} {m : List (Int × Int)} {V F : List Int} (h : InvF ones c m c2 V F) : InvF ones (wr (c + τ)) m (wr (c2 + τ)) V F := by
  obtain ⟨h1, h2, h3, h4⟩ := h
  refine ⟨wr_wr _, h2, h3, ?_⟩
  rw [h4, wr_addL, wr_addL]
  congr 1; omega
theorem size_simL {fuel : Nat} {ones : List Int} {τ : Int} (ih : ∀ (t : T) (c : Int) (m : List (Int × Int)) (c2 : Int) (V F : List Int), NV t → wt t < fuel → m.length + wt t ≤ 100000000 → InvF ones c m c2 V F →
    ∃ c' m' c2' V' F', lf_Prank_form_size_s1 fuel t τ c m = some (c', m') ∧ lf_Pconstraintref41_form_add_s1 fuel t τ ones c2 V F = some (c2', V', F') ∧ InvF ones c' m' c2' V' F' ∧ m'.length ≤ m.length + wt t) :
    ∀ (l : List T) (c : Int) (m : List (Int × Int)) (c2 : Int) (V F : List Int), NVL l → wtL l < fuel → m.length + wtL l ≤ 100000000 → InvF ones c m c2 V F →
    ∃ c' m' c2' V' F', lf_Prank_form_size_s1_L0 (fun f_6 mm_7 => some (f_6, mm_7)) (lf_Prank_form_size_s1 fuel) τ l c m = some (c', m') ∧ lf_Pconstraintref41_form_add_s1_L0 (fun f_10 f_11 f_12 => some (f_10, f_11, f_12)) (lf_Pconstraintref41_form_add_s1 fuel) τ ones l c2 V F = some (c2', V', F') ∧ InvF ones c' m' c2' V' F' ∧ m'.length ≤ m.length + wtL l
  | [], c, m, c2, V, F, _, _, _, h => ⟨c, m, c2, V, F, by rw [lf_Prank_form_size_s1_L0], by rw [lf_Pconstraintref41_form_add_s1_L0], h, by omega⟩
  | t :: l, c, m, c2, V, F, hn, hw, hl, h => by
    simp only [wtL] at hw hl
    obtain ⟨c1, m1, c3, V1, F1, e1, e2, e3, e4⟩ := ih t c m c2 V F hn.1 (by omega) (by omega) h
    obtain ⟨c', m', c2', V', F', f1, f2, f3, f4⟩ := size_simL ih l c1 m1 c3 V1 F1 hn.2 (by omega) (by omega) e3
    refine ⟨c', m', c2', V', F', ?_, ?_, f3, by simp only [wtL]; omega⟩
    · rw [lf_Prank_form_size_s1_L0, e1]; exact f1
    · rw [lf_Pconstraintref41_form_add_s1_L0, e2]; exact f2
theorem size_sim (ones : List Int) (τ : Int) (hτ : wr τ = τ) : ∀ (fuel : Nat) (t : T) (c : Int) (m : List (Int × Int)) (c2 : Int) (V F : List Int), NV t → wt t < fuel → m.length + wt t ≤ 100000000 → InvF ones c m c2 V F →
    ∃ c' m' c2' V' F', lf_Prank_form_size_s1 fuel t τ c m = some (c', m') ∧ lf_Pconstraintref41_form_add_s1 fuel t τ ones c2 V F = some (c2', V', F') ∧ InvF ones c' m' c2' V' F' ∧ m'.length ≤ m.length + wt t
  | 0, _, _, _, _, _, _, _, h, _, _ => by omega
  | fuel + 1, t, c, m, c2, V, F, hn, hw, hl, h => by
    have hwt := wt_eq t
    rw [lf_Prank_form_size_s1, lf_Pconstraintref41_form_add_s1]
    by_cases hk : t.k = 1
    · have har := hn.var hk
      have hlen := mput_len m t.i (wr ((mget m t.i).getD 0 + τ))
      obtain ⟨h1, h2, h3, h4⟩ := h
      have ef := filter_mput (fun v => !decide (v ∈ ones)) m t.i (wr ((mget m t.i).getD 0 + τ))
      have eo := filter_mput (fun v => decide (v ∈ ones)) m t.i (wr ((mget m t.i).getD 0 + τ))
      have hput : mputO m t.i (wr ((mget m t.i).getD 0 + τ)) = some (mput m t.i (wr ((mget m t.i).getD 0 + τ))) := if_pos (by omega)
      simp only [show (t.k == (1 : Int)) = true by simpa using hk, show (t.k != (1 : Int)) = false by simp [hk], cond_true, cond_false, hput, in_lf, Option.bind_some, har]
      by_cases ho : t.i ∈ ones
      · simp only [ho, decide_true, cond_true, Bool.not_true, Bool.false_eq_true, if_false, if_true] at ef eo ⊢
        rw [lf_Pconstraintref41_form_add_s1_L1]
        refine ⟨_, _, _, _, _, rfl, rfl, ⟨h1, by rw [ef]; exact h2, by rw [ef]; exact h3, ?_⟩, by omega⟩
        rw [eo, ← mget_filter (fun v => decide (v ∈ ones)) t.i (by simpa using ho) m, sum_mput, h4, wr_addL]
      · simp only [ho, decide_false, cond_false, Bool.not_false, Bool.false_eq_true, if_false, if_true] at ef eo ⊢
        have hfl : (m.filter fun q => !decide (q.1 ∈ ones)).length ≤ m.length := List.length_filter_le _ _
        have a1 : appO 8 V [t.i] = some (V ++ [t.i]) := appO_eq (by rw [h2]; simp only [List.length_map, List.length_singleton]; omega) (by rw [h2]; simp only [List.length_map, List.length_singleton]; omega)
        have a2 : appO 8 F [τ] = some (F ++ [τ]) := appO_eq (by rw [h3]; simp only [List.length_map, List.length_singleton]; omega) (by rw [h3]; simp only [List.length_map, List.length_singleton]; omega)
        have hf := find2_L2 c2 V F τ t hτ [] (m.filter fun q => !decide (q.1 ∈ ones)) (by simpa using h2) (by simpa using h3)
        simp only [List.nil_append, List.map_append, List.map_cons, List.map_nil, List.length_nil, ← h2, ← h3] at hf
        simp only [a1, a2, Option.bind_some]
        refine ⟨_, _, _, _, _, rfl, hf, ⟨h1, ?_, ?_, by rw [eo]; exact h4⟩, by omega⟩
        · rw [ef, ← mget_filter (fun v => !decide (v ∈ ones)) t.i (by simpa using ho) m]
        · rw [ef, ← mget_filter (fun v => !decide (v ∈ ones)) t.i (by simpa using ho) m]
    · simp only [show (t.k == (1 : Int)) = false by simpa using hk, show (t.k != (1 : Int)) = true by simpa using hk, cond_true, cond_false]
      obtain ⟨c', m', c2', V', F', f1, f2, f3, f4⟩ := size_simL (fun u c m c2 V F g1 g2 g3 g4 => size_sim ones τ hτ fuel u c m c2 V F g1 g2 g3 g4) t.ar (wr (c + τ)) m (wr (c2 + τ)) V F hn.ar (by omega) (by omega) (invF_const h)
      exact ⟨c', m', c2', V', F', f1, f2, f3, by omega⟩

/-! ### a constraint -/
theorem atom_simL (fuel : Nat) (ones : List Int) (r : S_api_Rank × Bool) (sign : Int) : ∀ (ts : List T) (i : Nat) (c : Int) (m : List (Int × Int)) (c2 : Int) (V F : List Int), NVL ts → wtL ts < fuel → m.length + wtL ts ≤ 100000000 → r.1.f2_Factors.length = i + ts.length → InvF ones c m c2 V F →
    ∃ c' m' c2' V' F', lf_Prank_form_add_s1_L0 (fun f_11 mm_12 => some (true, f_11, mm_12)) fuel r sign ts i c m = some (true, c', m') ∧ lf_Pconstraintref41_form_put_s1_L0 (fun f_16 f_17 f_18 => some (true, f_16, f_17, f_18)) fuel ones r sign ts i c2 V F = some (true, c2', V', F') ∧ InvF ones c' m' c2' V' F' ∧ m'.length ≤ m.length + wtL ts
  | [], i, c, m, c2, V, F, _, _, _, _, h => ⟨c, m, c2, V, F, by rw [lf_Prank_form_add_s1_L0], by rw [lf_Pconstraintref41_form_put_s1_L0], h, by omega⟩
  | t :: ts, i, c, m, c2, V, F, hn, hw, hl, hf, h => by
    simp only [wtL] at hw hl
    simp only [List.length_cons] at hf
    have hi : i < r.1.f2_Factors.length := by omega
    have hg : getI r.1.f2_Factors (i : Int) = some (r.1.f2_Factors[i]) := by rw [getI_nat]; exact List.getElem?_eq_getElem hi
    obtain ⟨c1, m1, c3, V1, F1, e1, e2, e3, e4⟩ := size_sim ones (wr (sign * r.1.f2_Factors[i])) (wr_wr _) fuel t c m c2 V F hn.1 (by omega) (by omega) h
    obtain ⟨c', m', c2', V', F', f1, f2, f3, f4⟩ := atom_simL fuel ones r sign ts (i + 1) c1 m1 c3 V1 F1 hn.2 (by omega) (by omega) (by omega) e3
    refine ⟨c', m', c2', V', F', ?_, ?_, f3, by simp only [wtL]; omega⟩
    · rw [lf_Prank_form_add_s1_L0, hg]
      simp only [Option.bind_some, e1]
      exact f1
    · rw [lf_Pconstraintref41_form_put_s1_L0, hg]
      simp only [Option.bind_some, e2]
      exact f2
theorem atom_sim (fuel : Nat) (hf : 10001 ≤ fuel) (ranks : List S_api_Rank) (ones : List Int) (a : At) (hb : Bf a) (sign : Int) (c : Int) (m : List (Int × Int)) (c2 : Int) (V F : List Int) (hl : m.length ≤ 10000000) (h : InvF ones c m c2 V F) :
    ∃ b c' m' c2' V' F', lf_Prank_form_add_s1 fuel ranks a sign c m = some (b, c', m') ∧ lf_Pconstraintref41_form_put_s1 fuel ranks a sign ones c2 V F = some (b, c2', V', F') ∧ InvF ones c' m' c2' V' F' ∧ m'.length ≤ m.length + 10000 := by
  have hw := hb.wt
  rw [lf_Prank_form_add_s1, lf_Pconstraintref41_form_put_s1, find_lf, refFind_lf]
  simp only [Option.bind_some, right_lf, refRight_lf, x_rightA_eq a (show wtL a.ts ≤ 1000000000 by omega)]
  cases h1 : (findRk ranks a.n (a.ts.length : Int)).2 with
  | false => exact ⟨false, c, m, c2, V, F, rfl, rfl, h, by omega⟩
  | true =>
    cases h2 : rightRk (findRk ranks a.n (a.ts.length : Int)).1 with
    | false => exact ⟨false, c, m, c2, V, F, rfl, rfl, h, by omega⟩
    | true =>
      cases h3 : rightA a with
      | false => exact ⟨false, c, m, c2, V, F, rfl, rfl, h, by omega⟩
      | true =>
        have hform : formL a.ts = true := by
          simp only [rightA, rightL, Bool.and_eq_true] at h3
          exact h3.2.1.1
        obtain ⟨c', m', c2', V', F', f1, f2, f3, f4⟩ := atom_simL fuel ones (findRk ranks a.n (a.ts.length : Int)) sign a.ts 0 _ m _ V F (nvl_form _ hform) (by omega) (by omega) (by have := (findRk_len h1).1; omega) (invF_const (τ := wr (sign * (findRk ranks a.n (a.ts.length : Int)).1.f1_Const)) h)
        exact ⟨true, c', m', c2', V', F', f1, f2, f3, by omega⟩

/-! ### the removed heads -/
theorem remove_sim (fuel : Nat) (hf : 10001 ≤ fuel) (ranks : List S_api_Rank) (ones : List Int) (N : Nat) (Q : Bool → Prop) (hQ : Q false) (kP : Int → List (Int × Int) → Option Bool) (kR : Int → List Int → List Int → Option Bool)
    (hk : ∀ (c : Int) (m : List (Int × Int)) (c2 : Int) (V F : List Int), m.length ≤ N → InvF ones c m c2 V F → ∃ b, Q b ∧ kP c m = some b ∧ kR c2 V F = some b) :
    ∀ (l : List At) (c : Int) (m : List (Int × Int)) (c2 : Int) (V F : List Int), (∀ a ∈ l, Bf a) → m.length + 10000 * l.length ≤ N → N ≤ 10000000 → InvF ones c m c2 V F →
    ∃ b, Q b ∧ lf_rank_Decreases_L0 kP fuel ranks l c m = some b ∧ lf_constraintref41_Decreases_L4 kR fuel ones ranks l c2 V F = some b
  | [], c, m, c2, V, F, _, hN, _, h => by
    rw [lf_rank_Decreases_L0, lf_constraintref41_Decreases_L4]
    exact hk c m c2 V F (by simpa using hN) h
  | a :: l, c, m, c2, V, F, hb, hN, hM, h => by
    simp only [List.length_cons] at hN
    obtain ⟨b, c', m', c2', V', F', e1, e2, e3, e4⟩ := atom_sim fuel hf ranks ones a (hb a (List.mem_cons_self ..)) 1 c m c2 V F (by omega) h
    rw [lf_rank_Decreases_L0, lf_constraintref41_Decreases_L4, e1, e2]
    simp only [Option.bind_some]
    cases b with
    | false => exact ⟨false, hQ, rfl, rfl⟩
    | true => exact remove_sim fuel hf ranks ones N Q hQ kP kR hk l c' m' c2' V' F' (fun x hx => hb x (List.mem_cons_of_mem _ hx)) (by omega) hM e3

/-! ### the body -/
def okV (head ones vs : List Int) : Bool := vs.all fun v => decide (v ∈ head) || decide (v ∈ ones)
theorem vars_L3 (k : Option Bool) (r1 : List (Int × Bool) × List (Int × Bool)) (head ones : List Int) (hh : ∀ v, (mget r1.1 v).getD false = decide (v ∈ head)) (ho : ∀ v, (mget r1.2 v).getD false = decide (v ∈ ones)) : ∀ vs : List Int, lf_rank_Decreases_L3 k r1 vs = if okV head ones vs = true then k else some false
  | [] => by rw [lf_rank_Decreases_L3]; rfl
  | v :: vs => by
    rw [lf_rank_Decreases_L3, vars_L3 k r1 head ones hh ho vs, hh, ho, okV, okV, List.all_cons]
    cases decide (v ∈ head) <;> cases decide (v ∈ ones) <;> simp
theorem vars_L7 (k : Option Bool) (head ones : List Int) : ∀ vs : List Int, lf_constraintref41_Decreases_L7 k head ones vs = if okV head ones vs = true then k else some false
  | [] => by rw [lf_constraintref41_Decreases_L7]; rfl
  | v :: vs => by
    rw [lf_constraintref41_Decreases_L7, vars_L7 k head ones vs, in_lf, in_lf, okV, okV, List.all_cons]
    simp only [Option.bind_some]
    cases decide (v ∈ head) <;> cases decide (v ∈ ones) <;> simp
/-- A goal with few small arguments. -/
def Bg (g : Gl) : Prop := Bf ⟨g.n, g.ts⟩
theorem body_sim (fuel : Nat) (hf : 10001 ≤ fuel) (ranks : List S_api_Rank) (rule : S_api_Rule) (hR : rule.f2_Remove ≠ []) (r1 : List (Int × Bool) × List (Int × Bool)) (head ones : List Int) (hh : ∀ v, (mget r1.1 v).getD false = decide (v ∈ head)) (ho : ∀ v, (mget r1.2 v).getD false = decide (v ∈ ones)) (N : Nat) (kP : Int → List (Int × Int) → Option Bool) (kR : Int → List Int → List Int → Option Bool)
    (hk : ∀ (c : Int) (m : List (Int × Int)) (c2 : Int) (V F : List Int), m.length ≤ N → InvF ones c m c2 V F → ∃ b, kP c m = some b ∧ kR c2 V F = some b) :
    ∀ (l : List Gl) (c : Int) (m : List (Int × Int)) (c2 : Int) (V F : List Int), (∀ g ∈ l, Bg g) → (∀ g ∈ l, g.op ≠ 3) → m.length + 10000 * l.length ≤ N → N ≤ 10000000 → InvF ones c m c2 V F →
    ∃ b, lf_rank_Decreases_L1 kP fuel r1 rule ranks l c m = some b ∧ lf_constraintref41_Decreases_L5 kR fuel head ones ranks l c2 V F = some b
  | [], c, m, c2, V, F, _, _, hN, _, h => by
    rw [lf_rank_Decreases_L1, lf_constraintref41_Decreases_L5]
    exact hk c m c2 V F (by simpa using hN) h
  | g :: l, c, m, c2, V, F, hb, h3, hN, hM, h => by
    simp only [List.length_cons] at hN
    have hg := hb g (List.mem_cons_self ..)
    have hw : wtL g.ts ≤ 10000 := Bf.wt hg
    have ih := fun c m c2 V F (x1 : m.length + 10000 * l.length ≤ N) (x2 : InvF ones c m c2 V F) => body_sim fuel hf ranks rule hR r1 head ones hh ho N kP kR hk l c m c2 V F (fun x hx => hb x (List.mem_cons_of_mem _ hx)) (fun x hx => h3 x (List.mem_cons_of_mem _ hx)) x1 hM x2
    have e3 : (g.op == (3 : Int)) = false := by simpa using h3 g (List.mem_cons_self ..)
    have eR : ((rule.f2_Remove.length : Int) == 0) = false := by
      cases hrr : rule.f2_Remove with
      | nil => exact absurd hrr hR
      | cons a b => simp; omega
    rw [lf_rank_Decreases_L1, lf_constraintref41_Decreases_L5]
    by_cases h0 : g.op = 0
    · simp only [e3, eR, show (g.op == (0 : Int)) = true by simpa using h0, show (g.op != (0 : Int)) = false by simp [h0], cond_true, cond_false, x_varsA_eq (⟨g.n, g.ts⟩ : At) (show wtL g.ts ≤ 1000000000 by omega), Option.bind_some, vars_L3 _ r1 head ones hh ho, vars_L7]
      obtain ⟨b, c', m', c2', V', F', e1, e2, e3, e4⟩ := atom_sim fuel hf ranks ones ⟨g.n, g.ts⟩ hg (-1) c m c2 V F (by omega) h
      rw [e1, e2]
      simp only [Option.bind_some, atomVars_lf fuel (⟨g.n, g.ts⟩ : At) (show wtL g.ts < fuel by omega) (show wtL g.ts ≤ 1000000000 by omega)]
      cases b with
      | false =>
        refine ⟨false, ?_, rfl⟩
        split <;> rfl
      | true =>
        simp only [Bool.not_true, cond_false]
        by_cases hv : okV head ones (uniq [] (occL g.ts)) = true
        · rw [if_pos hv, if_pos hv]
          exact ih c' m' c2' V' F' (by omega) e3
        · rw [if_neg hv, if_neg hv]
          exact ⟨false, rfl, rfl⟩
    · simp only [e3, show (g.op == (0 : Int)) = false by simpa using h0, show (g.op != (0 : Int)) = true by simpa using h0, cond_true, cond_false]
      exact ih c m c2 V F (by omega) h

/-! ### the end -/
def badQ (ones : List Int) (q : Int × Int) : Bool := decide (q.2 < 0) && !decide (q.1 ∈ ones)
theorem final_loop (k : Int → Option Bool) (r1 : List (Int × Bool) × List (Int × Bool)) (ones : List Int) (ho : ∀ v, (mget r1.2 v).getD false = decide (v ∈ ones)) : ∀ (l : List (Int × Int)) (x : Int), wr x = x →
    mapLoop (fun q (v : Int) => lf_rank_Decreases_L2_B k r1 q v) (fun v => lf_rank_Decreases_L2_E k r1 v) l x = if l.any (badQ ones) = true then some false else k (wr (x + sumV l))
  | [], x, hx => by
    simp only [mapLoop, lf_rank_Decreases_L2_E, sumV, Int.add_zero, hx]
    rfl
  | q :: l, x, hx => by
    rw [mapLoop, lf_rank_Decreases_L2_B, ho, List.any_cons, badQ]
    have ih := final_loop k r1 ones ho l (wr (x + q.2)) (wr_wr _)
    have e : wr (wr (x + q.2) + sumV l) = wr (x + sumV (q :: l)) := by rw [wr_addL, sumV, Int.add_assoc]
    rw [e] at ih
    cases decide (q.2 < 0) with
    | true =>
      cases decide (q.1 ∈ ones) with
      | true => exact ih
      | false => simp [mapRes]
    | false => exact ih
theorem sumV_perm {l m : List (Int × Int)} (h : l.Perm m) : sumV l = sumV m := by
  induction h with
  | nil => rfl
  | cons x _ ih => simp only [sumV, ih]
  | swap x y l => simp only [sumV]; omega
  | trans _ _ i1 i2 => exact i1.trans i2
theorem any_perm {α : Type} {l m : List α} (p : α → Bool) (h : l.Perm m) : l.any p = m.any p := by
  rw [Bool.eq_iff_iff, List.any_eq_true, List.any_eq_true]
  constructor
  · rintro ⟨x, h1, h2⟩; exact ⟨x, h.mem_iff.1 h1, h2⟩
  · rintro ⟨x, h1, h2⟩; exact ⟨x, h.mem_iff.2 h1, h2⟩
theorem final_P (k : Int → Option Bool) (r1 : List (Int × Bool) × List (Int × Bool)) (ones : List Int) (ho : ∀ v, (mget r1.2 v).getD false = decide (v ∈ ones)) (m : List (Int × Int)) (c : Int) (hc : wr c = c) (b : Bool) (hb : (if m.any (badQ ones) = true then some false else k (wr (c + sumV m))) = some b) : lf_rank_Decreases_L2 k r1 m c = some b := by
  rw [lf_rank_Decreases_L2]
  refine permO_of fun l' hl => ?_
  rw [final_loop k r1 ones ho l' c hc, any_perm _ hl, sumV_perm hl]
  exact hb
theorem final_R (k : Int → Option Bool) : ∀ (F : List Int) (x : Int), wr x = x → lf_constraintref41_Decreases_L6 k F x = if (F.any fun n => decide (n < 0)) = true then some false else k (wr (x + F.foldr (· + ·) 0))
  | [], x, hx => by rw [lf_constraintref41_Decreases_L6]; simp [hx]
  | n :: F, x, hx => by
    rw [lf_constraintref41_Decreases_L6, final_R k F _ (wr_wr _), List.any_cons, wr_addL]
    cases decide (n < 0) with
    | true => simp
    | false => simp [Int.add_assoc]
theorem sum_map (m : List (Int × Int)) : (m.map (·.2)).foldr (· + ·) 0 = sumV m := by
  induction m with
  | nil => rfl
  | cons q m ih => simp only [List.map_cons, List.foldr_cons, sumV, ih]
theorem final_sim (rule : S_api_Rule) (hR : rule.f2_Remove ≠ []) (r1 : List (Int × Bool) × List (Int × Bool)) (ones : List Int) (ho : ∀ v, (mget r1.2 v).getD false = decide (v ∈ ones)) (c : Int) (m : List (Int × Int)) (c2 : Int) (V F : List Int) (h : InvF ones c m c2 V F) :
    ∃ b, lf_rank_Decreases_L2 (fun least_18 => bif decide (least_18 ≥ (1 : Int)) then some true else some ((rule.f2_Remove.length : Int) == (0 : Int))) r1 m c = some b ∧ lf_constraintref41_Decreases_L6 (fun n_61 => some (decide (n_61 ≥ (1 : Int)))) F c2 = some b := by
  obtain ⟨h1, h2, h3, h4⟩ := h
  have eR : ((rule.f2_Remove.length : Int) == 0) = false := by
    cases hrr : rule.f2_Remove with
    | nil => exact absurd hrr hR
    | cons a b => simp; omega
  refine ⟨if m.any (badQ ones) = true then false else decide (wr (c + sumV m) ≥ 1), final_P _ r1 ones ho m c h1 _ ?_, ?_⟩
  · rw [eR]
    split
    · rfl
    · cases decide (wr (c + sumV m) ≥ 1) <;> rfl
  · rw [final_R _ F c2 (by rw [h4, wr_wr]), h3, sum_map, h4, wr_addL]
    have e1 : ((m.filter fun q => !decide (q.1 ∈ ones)).map (·.2)).any (fun n => decide (n < 0)) = m.any (badQ ones) := by
      rw [List.any_map, List.any_filter]
      congr 1
      funext q
      simp only [badQ, Function.comp, Bool.and_comm]
    have e2 := sum_split (fun v => decide (v ∈ ones)) m
    rw [e1, Int.add_assoc, ← e2]
    split <;> rfl

/-! ### a goal that unifies; no removed heads -/
theorem body_unify (fuel : Nat) (hf : 10001 ≤ fuel) (ranks : List S_api_Rank) (rule : S_api_Rule) (r1 : List (Int × Bool) × List (Int × Bool)) (head ones : List Int) (hh : ∀ v, (mget r1.1 v).getD false = decide (v ∈ head)) (ho : ∀ v, (mget r1.2 v).getD false = decide (v ∈ ones)) (kP : Int → List (Int × Int) → Option Bool) :
    ∀ (l : List Gl) (c : Int) (m : List (Int × Int)), (∀ g ∈ l, Bg g) → (∃ g ∈ l, g.op = 3) → m.length + 10000 * l.length ≤ 10000000 → wr c = c → lf_rank_Decreases_L1 kP fuel r1 rule ranks l c m = some false
  | [], _, _, _, ⟨_, h, _⟩, _, _ => by cases h
  | g :: l, c, m, hb, h3, hN, hc => by
    simp only [List.length_cons] at hN
    have hg := hb g (List.mem_cons_self ..)
    have hw : wtL g.ts ≤ 10000 := Bf.wt hg
    rw [lf_rank_Decreases_L1]
    by_cases e3 : g.op = 3
    · rw [show (g.op == (3 : Int)) = true by simpa using e3]; rfl
    · have h3' : ∃ g ∈ l, g.op = 3 := by
        obtain ⟨x, hx, hx3⟩ := h3
        rcases List.mem_cons.1 hx with rfl | hx
        · exact absurd hx3 e3
        · exact ⟨x, hx, hx3⟩
      have ih := fun c m (x1 : m.length + 10000 * l.length ≤ 10000000) (x2 : wr c = c) => body_unify fuel hf ranks rule r1 head ones hh ho kP l c m (fun x hx => hb x (List.mem_cons_of_mem _ hx)) h3' x1 x2
      by_cases h0 : g.op = 0
      · simp only [show (g.op == (3 : Int)) = false by simpa using e3, show (g.op == (0 : Int)) = true by simpa using h0, show (g.op != (0 : Int)) = false by simp [h0], cond_true, cond_false, x_varsA_eq (⟨g.n, g.ts⟩ : At) (show wtL g.ts ≤ 1000000000 by omega), Option.bind_some, vars_L3 _ r1 head ones hh ho]
        cases ((rule.f2_Remove.length : Int) == 0) with
        | true => rfl
        | false =>
          simp only [cond_false]
          obtain ⟨b, c', m', c2', V', F', e1, _, e3, e4⟩ := atom_sim fuel hf ranks [] ⟨g.n, g.ts⟩ hg (-1) c m (wr (c + sumV (m.filter fun q => decide (q.1 ∈ ([] : List Int))))) _ _ (by omega) ⟨hc, rfl, rfl, rfl⟩
          rw [e1]
          split
          · cases b with
            | false => rfl
            | true => exact ih c' m' (by omega) e3.1
          · rfl
      · simp only [show (g.op == (3 : Int)) = false by simpa using e3, show (g.op == (0 : Int)) = false by simpa using h0, show (g.op != (0 : Int)) = true by simpa using h0, cond_true, cond_false]
        exact ih c m (by omega) hc
theorem body_none (fuel : Nat) (ranks : List S_api_Rank) (rule : S_api_Rule) (hR : rule.f2_Remove = []) (r1 : List (Int × Bool) × List (Int × Bool)) (kP : Int → List (Int × Int) → Option Bool) (c : Int) (m : List (Int × Int)) :
    ∀ l : List Gl, lf_rank_Decreases_L1 kP fuel r1 rule ranks l c m = if (l.any fun g => decide (g.op = 3) || decide (g.op = 0)) = true then some false else kP c m
  | [] => by rw [lf_rank_Decreases_L1]; rfl
  | g :: l => by
    rw [lf_rank_Decreases_L1, body_none fuel ranks rule hR r1 kP c m l, hR, List.any_cons]
    by_cases e3 : g.op = 3
    · simp [e3]
    · by_cases h0 : g.op = 0
      · simp [h0]
      · simp [e3, h0]
theorem count_L0 (k : Int → Option Bool) : ∀ (l : List Gl) (n : Nat), n + l.length ≤ 1000 → lf_constraintref41_Decreases_L0 k l (n : Int) = if (l.any fun g => decide (g.op = 3)) = true then some false else k ((n + (l.filter fun g => decide (g.op = 0)).length : Nat) : Int)
  | [], n, _ => by rw [lf_constraintref41_Decreases_L0]; simp
  | g :: l, n, h => by
    simp only [List.length_cons] at h
    rw [lf_constraintref41_Decreases_L0, List.any_cons]
    have hn : wr ((n : Int) + 1) = ((n + 1 : Nat) : Int) := by rw [wr_eq (by omega)]; simp
    by_cases e3 : g.op = 3
    · simp [e3]
    · by_cases h0 : g.op = 0
      · simp only [show (g.op == (3 : Int)) = false by simpa using e3, show (g.op == (0 : Int)) = true by simpa using h0, cond_true, cond_false, hn, count_L0 k l (n + 1) (by omega), decide_eq_false e3, Bool.false_or]
        rw [List.filter_cons_of_pos (by simpa using h0), List.length_cons, show n + 1 + (l.filter fun g => decide (g.op = 0)).length = n + ((l.filter fun g => decide (g.op = 0)).length + 1) by omega]
      · simp only [show (g.op == (3 : Int)) = false by simpa using e3, show (g.op == (0 : Int)) = false by simpa using h0, cond_false, count_L0 k l n (by omega), decide_eq_false e3, Bool.false_or]
        rw [List.filter_cons_of_neg (by simpa using h0)]

/-! ### the variables of the heads, and those that are computed -/
def varsB (a : At) : List Int := uniq [] (occL a.ts)
theorem varsB_len {a : At} (h : Bf a) : (varsB a).length ≤ 10000 := by
  have h1 := uniq_len (occL a.ts) []
  have h2 := occL_wt a.ts
  have h3 := h.wt
  simp only [List.length_nil, Nat.zero_add] at h1
  unfold varsB
  omega
theorem mput_lenB : ∀ (l : List (Int × Bool)) (x : Int) (d : Bool), (mput l x d).length ≤ l.length + 1 := mput_len
theorem mputO_true {m : List (Int × Bool)} {v : Int} (h : m.length ≤ 1000000000) : mputO m v true = some (mput m v true) := if_pos (by omega)
theorem getD_put (m : List (Int × Bool)) (x v : Int) : (mget (mput m x true) v).getD false = ((mget m v).getD false || decide (v = x)) := by
  rw [mget_mput]
  by_cases h : x = v
  · subst h; simp
  · have h' : ¬ v = x := fun e => h e.symm
    simp [h, h']
theorem heads_L2 (k : List (Int × Bool) → Option (List (Int × Bool) × List (Int × Bool))) : ∀ (vs : List Int) (mm : List (Int × Bool)), mm.length + vs.length ≤ 100000000 → ∃ mm', lf_rank_variables_L2 k vs mm = k mm' ∧ mm'.length ≤ mm.length + vs.length ∧ ∀ v, (mget mm' v).getD false = ((mget mm v).getD false || decide (v ∈ vs))
  | [], mm, _ => ⟨mm, by rw [lf_rank_variables_L2], by simp, by simp⟩
  | x :: vs, mm, h => by
    simp only [List.length_cons] at h
    have hl := mput_lenB mm x true
    obtain ⟨mm', e1, e2, e3⟩ := heads_L2 k vs (mput mm x true) (by omega)
    refine ⟨mm', by rw [lf_rank_variables_L2, mputO_true (by omega)]; exact e1, by simp only [List.length_cons]; omega, fun v => ?_⟩
    rw [e3, getD_put, Bool.or_assoc]
    congr 1
    rw [Bool.eq_iff_iff]
    simp
theorem heads_L0 (k : List (Int × Bool) → Option (List (Int × Bool) × List (Int × Bool))) : ∀ (l : List At) (mm : List (Int × Bool)), (∀ a ∈ l, Bf a) → mm.length + 10000 * l.length ≤ 100000000 → ∃ mm', lf_rank_variables_L0 k l mm = k mm' ∧ mm'.length ≤ mm.length + 10000 * l.length ∧ ∀ v, (mget mm' v).getD false = ((mget mm v).getD false || decide (v ∈ l.flatMap varsB))
  | [], mm, _, _ => ⟨mm, by rw [lf_rank_variables_L0], by simp, by simp⟩
  | a :: l, mm, hb, h => by
    simp only [List.length_cons] at h
    have ha := hb a (List.mem_cons_self ..)
    have hw := ha.wt
    have hv := varsB_len ha
    obtain ⟨m1, e1, e2, e3⟩ := heads_L2 (fun mm_23 => lf_rank_variables_L0 k l mm_23) (varsB a) mm (by omega)
    obtain ⟨m2, f1, f2, f3⟩ := heads_L0 k l m1 (fun x hx => hb x (List.mem_cons_of_mem _ hx)) (by omega)
    refine ⟨m2, ?_, by simp only [List.length_cons]; omega, fun v => ?_⟩
    · rw [lf_rank_variables_L0, x_varsA_eq a (by omega)]
      simp only [Option.bind_some]
      exact e1.trans f1
    · rw [f3, e3, Bool.or_assoc]
      congr 1
      rw [Bool.eq_iff_iff]
      simp
def compG (head : List Int) (g : Gl) : List Int := if g.op = 4 then match g.ts with
  | t :: _ => if t.k = 1 ∧ t.i ∉ head then [t.i] else []
  | [] => [] else []
def compL (head : List Int) (l : List Gl) : List Int := l.flatMap (compG head)
theorem comp_L1 (k : List (Int × Bool) → Option (List (Int × Bool) × List (Int × Bool))) (hm : List (Int × Bool)) (head : List Int) (hh : ∀ v, (mget hm v).getD false = decide (v ∈ head)) : ∀ (l : List Gl) (mm : List (Int × Bool)), mm.length + l.length ≤ 100000000 → ∃ mm', lf_rank_variables_L1 k hm l mm = k mm' ∧ mm'.length ≤ mm.length + l.length ∧ ∀ v, (mget mm' v).getD false = ((mget mm v).getD false || decide (v ∈ compL head l))
  | [], mm, _ => ⟨mm, by rw [lf_rank_variables_L1], by simp, by simp [compL]⟩
  | g :: l, mm, h => by
    simp only [List.length_cons] at h
    have same : (compG head g = []) → (lf_rank_variables_L1 k hm (g :: l) mm = lf_rank_variables_L1 k hm l mm) → ∃ mm', lf_rank_variables_L1 k hm (g :: l) mm = k mm' ∧ mm'.length ≤ mm.length + (g :: l).length ∧ ∀ v, (mget mm' v).getD false = ((mget mm v).getD false || decide (v ∈ compL head (g :: l))) := fun h1 h2 => by
      obtain ⟨mm', e1, e2, e3⟩ := comp_L1 k hm head hh l mm (by omega)
      refine ⟨mm', h2.trans e1, by simp only [List.length_cons]; omega, fun v => ?_⟩
      rw [e3, compL, compL, List.flatMap_cons, h1, List.nil_append]
    by_cases h4 : g.op = 4
    · cases hts : g.ts with
      | nil =>
        refine same (by simp [compG, hts]) ?_
        rw [lf_rank_variables_L1]
        simp [h4, hts]
      | cons t ts =>
        have hgt : getI g.ts 0 = some t := by rw [hts]; rfl
        have hpos : decide ((g.ts.length : Int) > 0) = true := by rw [hts]; simp
        by_cases hk : t.k = 1
        · by_cases hi : t.i ∈ head
          · refine same (by simp [compG, hts, hi]) ?_
            rw [lf_rank_variables_L1]
            simp [h4, hpos, hgt, hk, hh, hi]
          · have hl := mput_lenB mm t.i true
            obtain ⟨mm', e1, e2, e3⟩ := comp_L1 k hm head hh l (mput mm t.i true) (by omega)
            have hc : compG head g = [t.i] := by simp [compG, h4, hts, hk, hi]
            refine ⟨mm', ?_, by simp only [List.length_cons]; omega, fun v => ?_⟩
            · rw [lf_rank_variables_L1]
              simp only [show (g.op == (4 : Int)) = true by simpa using h4, hpos, hgt, show (t.k == (1 : Int)) = true by simpa using hk, hh, hi, decide_false, Bool.not_false, cond_true, Option.bind_some, mputO_true (show mm.length ≤ 1000000000 by omega)]
              exact e1
            · rw [e3, getD_put, compL, compL, List.flatMap_cons, hc, Bool.or_assoc]
              congr 1
              rw [Bool.eq_iff_iff]
              simp
        · refine same (by simp [compG, hts, hk]) ?_
          rw [lf_rank_variables_L1]
          simp [h4, hpos, hgt, beq_false_of_ne hk]
    · refine same (by simp [compG, h4]) ?_
      rw [lf_rank_variables_L1]
      simp [beq_false_of_ne h4]
theorem ref_L1 (fuel : Nat) (hf : 10001 ≤ fuel) (k : List Int → Option Bool) : ∀ (l : List At) (head : List Int), (∀ a ∈ l, Bf a) → head.length + 10000 * l.length ≤ 100000000 → lf_constraintref41_Decreases_L1 k fuel l head = k (head ++ l.flatMap varsB)
  | [], head, _, _ => by rw [lf_constraintref41_Decreases_L1]; simp
  | a :: l, head, hb, h => by
    simp only [List.length_cons] at h
    have ha := hb a (List.mem_cons_self ..)
    have hw := ha.wt
    have hv := varsB_len ha
    rw [lf_constraintref41_Decreases_L1, atomVars_lf fuel a (by omega) (by omega)]
    simp only [Option.bind_some]
    rw [show uniq [] (occL a.ts) = varsB a from rfl, appO_eq (by omega) (by omega)]
    simp only [Option.bind_some]
    rw [ref_L1 fuel hf k l _ (fun x hx => hb x (List.mem_cons_of_mem _ hx)) (by rw [List.length_append]; omega)]
    simp
theorem ref_L2 (fuel : Nat) (hf : 10001 ≤ fuel) (k : List Int → Option Bool) : ∀ (l : List At) (head : List Int), (∀ a ∈ l, Bf a) → head.length + 10000 * l.length ≤ 100000000 → lf_constraintref41_Decreases_L2 k fuel l head = k (head ++ l.flatMap varsB)
  | [], head, _, _ => by rw [lf_constraintref41_Decreases_L2]; simp
  | a :: l, head, hb, h => by
    simp only [List.length_cons] at h
    have ha := hb a (List.mem_cons_self ..)
    have hw := ha.wt
    have hv := varsB_len ha
    rw [lf_constraintref41_Decreases_L2, atomVars_lf fuel a (by omega) (by omega)]
    simp only [Option.bind_some]
    rw [show uniq [] (occL a.ts) = varsB a from rfl, appO_eq (by omega) (by omega)]
    simp only [Option.bind_some]
    rw [ref_L2 fuel hf k l _ (fun x hx => hb x (List.mem_cons_of_mem _ hx)) (by rw [List.length_append]; omega)]
    simp
theorem ref_L3 (k : List Int → Option Bool) (head : List Int) : ∀ (l : List Gl) (ones : List Int), ones.length + l.length ≤ 100000000 → lf_constraintref41_Decreases_L3 k head l ones = k (ones ++ compL head l)
  | [], ones, _ => by rw [lf_constraintref41_Decreases_L3]; simp [compL]
  | g :: l, ones, h => by
    simp only [List.length_cons] at h
    have ih := ref_L3 k head l ones (by omega)
    rw [lf_constraintref41_Decreases_L3, compL, List.flatMap_cons]
    have ih' : ones ++ List.flatMap (compG head) l = ones ++ compL head l := rfl
    by_cases h4 : g.op = 4
    · cases hts : g.ts with
      | nil => simp [h4, hts, ih, compG, compL]
      | cons t ts =>
        have hgt : getI (t :: ts) 0 = some t := rfl
        have hpos : decide (((t :: ts).length : Int) > 0) = true := by simp
        by_cases hk : t.k = 1
        · by_cases hi : t.i ∈ head
          · simp [h4, hts, hgt, hk, in_lf, hi, ih, compG, compL]
          · have ih2 := ref_L3 k head l (ones ++ [t.i]) (by simp; omega)
            have ha : appO 8 ones [t.i] = some (ones ++ [t.i]) := appO_eq (by simp; omega) (by simp; omega)
            simp only [show (g.op == (4 : Int)) = true by simpa using h4, hpos, hgt, show (t.k == (1 : Int)) = true by simpa using hk, in_lf, hi, decide_false, Bool.not_false, cond_true, Option.bind_some, ha, ih2]
            simp [compG, h4, hts, hk, hi, compL]
        · simp [h4, hts, hgt, hk, beq_false_of_ne hk, ih, compG, compL]
    · simp [h4, beq_false_of_ne h4, ih, compG, compL]

/-! ### the two together -/
structure Br (r : S_api_Rule) : Prop where
  lk : r.f1_Keep.length ≤ 20
  lr : r.f2_Remove.length ≤ 20
  lb : r.f4_Body.length ≤ 20
  bk : ∀ a ∈ r.f1_Keep, Bf a
  br : ∀ a ∈ r.f2_Remove, Bf a
  bb : ∀ g ∈ r.f4_Body, Bg g
def headB (r : S_api_Rule) : List Int := r.f1_Keep.flatMap varsB ++ r.f2_Remove.flatMap varsB
theorem variables_lf (r : S_api_Rule) (h : Br r) : ∃ r1, lf_rank_variables r = some r1 ∧ (∀ v, (mget r1.1 v).getD false = decide (v ∈ headB r)) ∧ ∀ v, (mget r1.2 v).getD false = decide (v ∈ compL (headB r) r.f4_Body) := by
  obtain ⟨hk, hr, hb, bk, br, bb⟩ := h
  have hH : lf_occur_Heads r = some (r.f1_Keep ++ r.f2_Remove) := by
    rw [lf_occur_Heads, lf_occur_count]
    simp only [Option.bind_some]
    have hw : wr ((r.f1_Keep.length : Int) + (r.f2_Remove.length : Int)) = ((r.f1_Keep.length + r.f2_Remove.length : Nat) : Int) := by rw [wr_eq (by omega)]; simp
    rw [hw, makeO, if_pos (by omega)]
    simp only [Option.bind_some]
    rw [appO_eq (by simp; omega) (by simp; omega)]
    simp only [Option.bind_some, List.nil_append]
    rw [appO_eq (by omega) (by omega)]
    rfl
  rw [lf_rank_variables, hH]
  simp only [Option.bind_some]
  obtain ⟨hm, e1, e2, e3⟩ := heads_L0 (fun mm_6 => lf_rank_variables_L1 (fun mm_9 => some (mm_6, mm_9)) mm_6 r.f4_Body []) (r.f1_Keep ++ r.f2_Remove) [] (fun a ha => (List.mem_append.1 ha).elim (bk a) (br a)) (by simp; omega)
  have hh : ∀ v, (mget hm v).getD false = decide (v ∈ headB r) := fun v => by rw [e3]; simp [mget, headB]
  obtain ⟨cm, f1, f2, f3⟩ := comp_L1 (fun mm_9 => some (hm, mm_9)) hm (headB r) hh r.f4_Body [] (by simp; omega)
  exact ⟨(hm, cm), e1.trans f1, hh, fun v => by rw [f3]; simp [mget]⟩
theorem dec_same (fuel : Nat) (hf : 10001 ≤ fuel) (ranks : List S_api_Rank) (r : S_api_Rule) (h : Br r) : ∃ b, lf_rank_Decreases fuel ranks r = some b ∧ lf_constraintref41_Decreases fuel ranks r = some b := by
  obtain ⟨r1, hv, hh, ho⟩ := variables_lf r h
  obtain ⟨hk, hr, hb, bk, br, bb⟩ := h
  rw [lf_rank_Decreases, hv, lf_constraintref41_Decreases]
  simp only [Option.bind_some]
  have hcnt := count_L0 (fun calls_3 => (bif ((r.f2_Remove.length : Int) == (0 : Int)) then some ((calls_3 == (0 : Int))) else
    (lf_constraintref41_Decreases_L1 (fun head_12 => (lf_constraintref41_Decreases_L2 (fun head_19 => (lf_constraintref41_Decreases_L3 (fun ones_27 => (lf_constraintref41_Decreases_L4 (fun t128_41 t128_42 t128_43 => (lf_constraintref41_Decreases_L5 (fun f_54 f_55 f_56 => (lf_constraintref41_Decreases_L6 (fun n_61 => some ((decide (n_61 ≥ (1 : Int))))) f_56 f_54)) fuel head_19 ones_27 ranks r.f4_Body t128_41 t128_42 t128_43)) fuel ones_27 ranks r.f2_Remove 0 [] [])) head_19 r.f4_Body [])) fuel r.f2_Remove head_12)) fuel r.f1_Keep []))) r.f4_Body 0 (by omega)
  rw [show ((0 : Nat) : Int) = 0 from rfl] at hcnt
  rw [hcnt]
  clear hcnt
  have hinv0 : InvF (compL (headB r) r.f4_Body) 0 [] 0 [] [] := ⟨by decide, rfl, rfl, rfl⟩
  by_cases h3 : ∃ g ∈ r.f4_Body, g.op = 3
  · have e3 : (r.f4_Body.any fun g => decide (g.op = 3)) = true := by
      rw [List.any_eq_true]
      obtain ⟨g, g1, g2⟩ := h3
      exact ⟨g, g1, decide_eq_true g2⟩
    rw [if_pos e3]
    refine ⟨false, ?_, rfl⟩
    obtain ⟨b, rfl, e1, _⟩ := remove_sim fuel hf ranks (compL (headB r) r.f4_Body) 1000000 (fun b => b = false) rfl (fun c m => lf_rank_Decreases_L1 (fun change_14 mm_15 => (lf_rank_Decreases_L2 (fun least_18 => (bif (decide (least_18 ≥ (1 : Int))) then some (true) else some (((r.f2_Remove.length : Int) == (0 : Int))))) r1 mm_15 change_14)) fuel r1 r ranks r.f4_Body c m) (fun _ _ _ => some false) (fun c m c2 V F hm hi => ⟨false, rfl, body_unify fuel hf ranks r r1 _ _ hh ho _ r.f4_Body c m bb h3 (by omega) hi.1, rfl⟩) r.f2_Remove 0 [] 0 [] [] br (by simp; omega) (by omega) hinv0
    exact e1
  · have e3 : (r.f4_Body.any fun g => decide (g.op = 3)) = false := by
      rw [Bool.eq_false_iff, Ne, List.any_eq_true]
      rintro ⟨g, g1, g2⟩
      exact h3 ⟨g, g1, of_decide_eq_true g2⟩
    rw [if_neg (by rw [e3]; simp)]
    have h3' : ∀ g ∈ r.f4_Body, g.op ≠ 3 := fun g hg e => h3 ⟨g, hg, e⟩
    by_cases hR : r.f2_Remove = []
    · rw [hR, lf_rank_Decreases_L0, body_none fuel ranks r hR]
      have e0 : (r.f4_Body.any fun g => decide (g.op = 3) || decide (g.op = 0)) = !decide ((r.f4_Body.filter fun g => decide (g.op = 0)).length = 0) := by
        rw [Bool.eq_iff_iff]
        simp only [List.any_eq_true, Bool.or_eq_true, decide_eq_true_eq, Bool.not_eq_true', decide_eq_false_iff_not, List.length_eq_zero_iff, List.filter_eq_nil_iff]
        constructor
        · rintro ⟨g, g1, g2⟩ hall
          exact hall g g1 (g2.resolve_left (h3' g g1))
        · intro hn
          apply Classical.byContradiction
          intro hc
          exact hn fun g hg e => hc ⟨g, hg, .inr e⟩
      refine ⟨decide ((r.f4_Body.filter fun g => decide (g.op = 0)).length = 0), ?_, ?_⟩
      · rw [e0]
        by_cases hz : (r.f4_Body.filter fun g => decide (g.op = 0)).length = 0
        · rw [decide_eq_true hz]
          exact final_P _ r1 _ ho [] 0 (by decide) true (by simp [sumV])
        · rw [decide_eq_false hz]; rfl
      · simp only [List.length_nil, Nat.zero_add]
        show some _ = some _
        congr 1
        rw [Bool.eq_iff_iff]
        simp
    · have eR : ((r.f2_Remove.length : Int) == 0) = false := by
        cases hrr : r.f2_Remove with
        | nil => exact absurd hrr hR
        | cons a b => simp; omega
      rw [eR]
      simp only [cond_false]
      rw [ref_L1 fuel hf _ r.f1_Keep [] bk (by simp; omega)]
      rw [ref_L2 fuel hf _ r.f2_Remove _ br (by
        have : ∀ l : List At, (∀ a ∈ l, Bf a) → (l.flatMap varsB).length ≤ 10000 * l.length := by
          intro l
          induction l with
          | nil => intro _; simp
          | cons a l ih =>
            intro hb
            have h1 := varsB_len (hb a (List.mem_cons_self ..))
            have h2 := ih fun x hx => hb x (List.mem_cons_of_mem _ hx)
            simp only [List.flatMap_cons, List.length_append, List.length_cons]
            omega
        have := this r.f1_Keep bk
        simp only [List.nil_append]
        omega)]
      rw [ref_L3 _ _ r.f4_Body [] (by simp; omega)]
      simp only [List.nil_append]
      obtain ⟨b, _, e1, e2⟩ := remove_sim fuel hf ranks (compL (headB r) r.f4_Body) 500000 (fun _ => True) trivial _ _ (fun c m c2 V F hm hi => by
        obtain ⟨b, x1, x2⟩ := body_sim fuel hf ranks r hR r1 (headB r) (compL (headB r) r.f4_Body) hh ho 1000000 _ _ (fun c m c2 V F _ hi => final_sim r hR r1 _ ho c m c2 V F hi) r.f4_Body c m c2 V F bb h3' (by omega) (by omega) hi
        exact ⟨b, trivial, x1, x2⟩) r.f2_Remove 0 [] 0 [] [] br (by simp; omega) (by omega) hinv0
      rw [eR] at e1
      exact ⟨b, e1, e2⟩
end Go.Proofs.Ytnlncgjlhnodgaa


namespace Go.Proofs.Ytnlncgjlhnodgaa
set_option maxRecDepth 100000
open Go.RowKit

theorem atoms_L0 (k : Option Bool) (fuel : Nat) (hf : 200 ≤ fuel) (P : Prop) : ∀ l : List At, (∃ b, k = some b ∧ (b = true → P)) → ∃ b, lf_constraintlaw41_brief_L0 k fuel l = some b ∧ (b = true → (∀ a ∈ l, Bf a) ∧ P)
  | [], ⟨b, e1, e2⟩ => ⟨b, by rw [lf_constraintlaw41_brief_L0]; exact e1, fun h => ⟨(fun _ ha => by cases ha), e2 h⟩⟩
  | a :: l, hk => by
    obtain ⟨b, e1, e2⟩ := brief_lf fuel hf a
    rw [lf_constraintlaw41_brief_L0, e1]
    simp only [Option.bind_some]
    cases b with
    | false => exact ⟨false, rfl, fun h => by cases h⟩
    | true =>
      obtain ⟨c, f1, f2⟩ := atoms_L0 k fuel hf P l hk
      exact ⟨c, f1, fun h => ⟨(fun x hx => (List.mem_cons.1 hx).elim (fun e => e ▸ e2 rfl) ((f2 h).1 x)), (f2 h).2⟩⟩
theorem atoms_L1 (k : Option Bool) (fuel : Nat) (hf : 200 ≤ fuel) (P : Prop) : ∀ l : List At, (∃ b, k = some b ∧ (b = true → P)) → ∃ b, lf_constraintlaw41_brief_L1 k fuel l = some b ∧ (b = true → (∀ a ∈ l, Bf a) ∧ P)
  | [], ⟨b, e1, e2⟩ => ⟨b, by rw [lf_constraintlaw41_brief_L1]; exact e1, fun h => ⟨(fun _ ha => by cases ha), e2 h⟩⟩
  | a :: l, hk => by
    obtain ⟨b, e1, e2⟩ := brief_lf fuel hf a
    rw [lf_constraintlaw41_brief_L1, e1]
    simp only [Option.bind_some]
    cases b with
    | false => exact ⟨false, rfl, fun h => by cases h⟩
    | true =>
      obtain ⟨c, f1, f2⟩ := atoms_L1 k fuel hf P l hk
      exact ⟨c, f1, fun h => ⟨(fun x hx => (List.mem_cons.1 hx).elim (fun e => e ▸ e2 rfl) ((f2 h).1 x)), (f2 h).2⟩⟩
theorem goals_L2 (k : Option Bool) (fuel : Nat) (hf : 200 ≤ fuel) (P : Prop) : ∀ l : List Gl, (∃ b, k = some b ∧ (b = true → P)) → ∃ b, lf_constraintlaw41_brief_L2 k fuel l = some b ∧ (b = true → (∀ g ∈ l, Bg g) ∧ P)
  | [], ⟨b, e1, e2⟩ => ⟨b, by rw [lf_constraintlaw41_brief_L2]; exact e1, fun h => ⟨(fun _ ha => by cases ha), e2 h⟩⟩
  | g :: l, hk => by
    obtain ⟨b, e1, e2⟩ := brief_lf fuel hf ⟨⟨#[]⟩, g.ts⟩
    rw [lf_constraintlaw41_brief_L2, e1]
    simp only [Option.bind_some]
    cases b with
    | false => exact ⟨false, rfl, fun h => by cases h⟩
    | true =>
      obtain ⟨c, f1, f2⟩ := goals_L2 k fuel hf P l hk
      exact ⟨c, f1, fun h => ⟨(fun x hx => (List.mem_cons.1 hx).elim (fun e => e ▸ e2 rfl) ((f2 h).1 x)), (f2 h).2⟩⟩
theorem briefR_lf (fuel : Nat) (hf : 200 ≤ fuel) (r : S_api_Rule) : ∃ b, lf_constraintlaw41_brief fuel r = some b ∧ (b = true → Br r) := by
  rw [lf_constraintlaw41_brief]
  by_cases h1 : (r.f1_Keep.length : Int) > 20
  · rw [decide_eq_true h1]; exact ⟨false, rfl, fun h => by cases h⟩
  by_cases h2 : (r.f2_Remove.length : Int) > 20
  · rw [decide_eq_false h1, decide_eq_true h2]; exact ⟨false, rfl, fun h => by cases h⟩
  by_cases h3 : (r.f4_Body.length : Int) > 20
  · rw [decide_eq_false h1, decide_eq_false h2, decide_eq_true h3]; exact ⟨false, rfl, fun h => by cases h⟩
  rw [decide_eq_false h1, decide_eq_false h2, decide_eq_false h3]
  simp only [cond_false]
  obtain ⟨b, e1, e2⟩ := atoms_L0 (lf_constraintlaw41_brief_L1 (lf_constraintlaw41_brief_L2 (some true) fuel r.f4_Body) fuel r.f2_Remove) fuel hf _ r.f1_Keep (atoms_L1 _ fuel hf _ r.f2_Remove (goals_L2 _ fuel hf True r.f4_Body ⟨true, rfl, fun _ => trivial⟩))
  exact ⟨b, e1, fun h => by
    obtain ⟨a1, a2, a3, _⟩ := e2 h
    exact ⟨by omega, by omega, by omega, a1, a2, a3⟩⟩

theorem decreases_lf (fuel : Nat) (hf : 10001 ≤ fuel) (haw : lf_constraintlaw41_awake fuel = some true) (ranks : List S_api_Rank) (r : S_api_Rule) : lf_constraintlaw41_RankDecreases fuel ranks r = some true := by
  obtain ⟨b, e⟩ := few_lf ranks
  rw [lf_constraintlaw41_RankDecreases, e, haw]
  simp only [Option.bind_some]
  cases b with
  | false => rfl
  | true =>
    obtain ⟨b, e1, e2⟩ := briefR_lf fuel (by omega) r
    rw [e1]
    simp only [Bool.not_true, cond_false, Option.bind_some]
    cases b with
    | false => rfl
    | true =>
      obtain ⟨b, d1, d2⟩ := dec_same fuel hf ranks r (e2 rfl)
      rw [d1, d2]
      simp
theorem check_L1 (fuel : Nat) (hf : 10001 ≤ fuel) (ranks : List S_api_Rank) : ∀ l : List S_api_Rule, (∀ r ∈ l, Br r) → ∃ e, lf_rank_Check_L1 (some 0) fuel ranks l = some e ∧ lf_constraintref41_Check_L1 (some 0) fuel ranks l = some e
  | [], _ => ⟨0, by rw [lf_rank_Check_L1], by rw [lf_constraintref41_Check_L1]⟩
  | r :: l, h => by
    obtain ⟨b, d1, d2⟩ := dec_same fuel hf ranks r (h r (List.mem_cons_self ..))
    obtain ⟨e, f1, f2⟩ := check_L1 fuel hf ranks l fun x hx => h x (List.mem_cons_of_mem _ hx)
    rw [lf_rank_Check_L1, lf_constraintref41_Check_L1, d1, d2]
    simp only [Option.bind_some]
    cases b with
    | false => exact ⟨19, rfl, rfl⟩
    | true => exact ⟨e, f1, f2⟩
theorem check_L0 (ranks : List S_api_Rank) (k k' : Option Int) (e : Int) (h1 : k = some e) (h2 : k' = some e) : ∀ l : List S_api_Decl, ∃ e, lf_rank_Check_L0 k ranks l = some e ∧ lf_constraintref41_Check_L0 k' ranks l = some e
  | [] => ⟨e, by rw [lf_rank_Check_L0, h1], by rw [lf_constraintref41_Check_L0, h2]⟩
  | d :: l => by
    rw [lf_rank_Check_L0, lf_constraintref41_Check_L0, find_lf, refFind_lf]
    simp only [Option.bind_some]
    cases (findRk ranks d.f0_Name d.f1_Arity).2 with
    | false => exact ⟨13, rfl, rfl⟩
    | true => exact check_L0 ranks k k' e h1 h2 l
theorem check_same (fuel : Nat) (hf : 10001 ≤ fuel) (p : S_api_Program) (ranks : List S_api_Rank) (h : ∀ r ∈ p.f1_Rules, Br r) : ∃ e, lf_rank_Check fuel p ranks = some e ∧ lf_constraintref41_Check fuel p ranks = some e := by
  rw [lf_rank_Check, lf_constraintref41_Check, valid_lf, refValid_lf]
  simp only [Option.bind_some]
  cases ranks.all rightRk with
  | false => exact ⟨2, rfl, rfl⟩
  | true =>
    obtain ⟨e, f1, f2⟩ := check_L1 fuel hf ranks p.f1_Rules h
    exact check_L0 ranks _ _ e f1 f2 p.f0_Decls
theorem checks_L0 (fuel : Nat) (hf : 10001 ≤ fuel) (haw : lf_constraintlaw41_awake fuel = some true) (k : Option Bool) : ∀ l : List S_api_Rule, ((∀ r ∈ l, Br r) → k = some true) → lf_constraintlaw41_RankChecks_L0 k fuel l = some true
  | [], h => by rw [lf_constraintlaw41_RankChecks_L0]; exact h fun _ h => by cases h
  | r :: l, h => by
    obtain ⟨b, e1, e2⟩ := briefR_lf fuel (by omega) r
    rw [lf_constraintlaw41_RankChecks_L0, e1, haw]
    simp only [Option.bind_some]
    cases b with
    | false => rfl
    | true => exact checks_L0 fuel hf haw k l fun hl => h fun x hx => (List.mem_cons.1 hx).elim (fun e => e ▸ e2 rfl) (hl x)
theorem checks_lf (fuel : Nat) (hf : 10001 ≤ fuel) (haw : lf_constraintlaw41_awake fuel = some true) (p : S_api_Program) (ranks : List S_api_Rank) : lf_constraintlaw41_RankChecks fuel p ranks = some true := by
  obtain ⟨b, e⟩ := few_lf ranks
  rw [lf_constraintlaw41_RankChecks, e, haw]
  simp only [Option.bind_some]
  cases b with
  | false => rfl
  | true =>
    simp only [Bool.not_true, cond_false]
    cases decide ((p.f1_Rules.length : Int) > 20) with
    | true => rfl
    | false =>
      cases decide ((p.f0_Decls.length : Int) > 100) with
      | true => rfl
      | false =>
        simp only [cond_false]
        refine checks_L0 fuel hf haw _ _ fun hl => ?_
        obtain ⟨e, f1, f2⟩ := check_same fuel hf p ranks hl
        rw [f1, f2]
        simp
theorem gives_RankDecreases (ranks : List S_api_Rank) (r : S_api_Rule) : Gives Try.prog 4 [.lst (ranks.map enc_S_api_Rank), enc_S_api_Rule r] (.bool true) :=
  lg_constraintlaw41_RankDecreases (20000 + 20) ranks r true (decreases_lf _ (by omega) (awake_lf 20000) ranks r)
theorem gives_RankChecks (p : S_api_Program) (ranks : List S_api_Rank) : Gives Try.prog 5 [enc_S_api_Program p, .lst (ranks.map enc_S_api_Rank)] (.bool true) :=
  lg_constraintlaw41_RankChecks (20000 + 20) p ranks true (checks_lf _ (by omega) (awake_lf 20000) p ranks)
end Go.Proofs.Ytnlncgjlhnodgaa


namespace Go.Proofs.Ytnlncgjlhnodgaa
set_option maxRecDepth 100000
open Go.ChangeShapes Go.WideShapes Go.ChangeAt Go.RowKit

/-- Every cell that there is. -/
def live (w : World) (a : Addr) : Prop := ∃ v, w.cell? a = some v
theorem live_grow {w w' : World} (e : Ext w w') : Grow (live w) w (live w') w' := fun _ ⟨v, hv⟩ => ⟨⟨v, e.cellOf hv⟩, by rw [hv]; exact e.cellOf hv⟩
/-- A datum of a type, opened. -/
def Op (t : TypeId) (n : Nat) (S : D → Prop) : Prop := ∀ (H : Type) (enc : TypeId × Value → H) (W : World) (base : Nat) (sp : Nat → Bool) (hd : Bool) (fuel : Nat) (cs : List Value) (x : DataW H × List MemPlace),
  DataW.trod enc Try.prog W base sp hd fuel t cs = some x → ∃ d v, S d ∧ d.plain = true ∧ sz d = n ∧ Rep (live W) W d v ∧ cs = v.cells.toList
theorem Op.to {t : TypeId} {n : Nat} {S S' : D → Prop} (h : Op t n S) (k : ∀ d, S d → S' d) : Op t n S' := fun H enc W base sp hd fuel cs x hx => by
  obtain ⟨d, v, h1, h2⟩ := h H enc W base sp hd fuel cs x hx
  exact ⟨d, v, k d h1, h2⟩
theorem op_i64 {t : TypeId} (ht : (Try.prog).underlying t = some (.int .i64)) : Op t 1 fun d => ∃ n, d = .int .i64 n := fun H enc W base sp hd fuel cs x hx => by
  obtain ⟨k, rfl, _, w0⟩ := DataW.trod_int ht hx
  have := i64_of w0
  refine ⟨.int .i64 k, .int .i64 k, ⟨k, rfl⟩, rfl, rfl, ?_, by simp [Value.cells]⟩
  simp only [Rep]
  exact ⟨trivial, wrap64 (by unfold I64 at this; omega)⟩
theorem op_str {t : TypeId} (ht : (Try.prog).underlying t = some .string) : Op t 1 fun d => ∃ s, d = .str s := fun H enc W base sp hd fuel cs x hx => by
  obtain ⟨s, rfl, _, w0⟩ := DataW.trod_string ht hx
  refine ⟨.str s, .string s, ⟨s, rfl⟩, rfl, rfl, ?_, by simp [Value.cells]⟩
  simp only [Rep]
  exact ⟨trivial, by unfold maxLen at w0; omega⟩
/-- One predicate a field. -/
def Fits : List (D → Prop) → List D → Prop
  | [], [] => True
  | S :: ss, d :: ds => S d ∧ Fits ss ds
  | _, _ => False
/-- Fields, one behind the other, from an offset to the end. -/
def tight (P : Program) : Nat → List Field → Bool
  | _, [] => true
  | o, f :: fs => f.offset == o && tight P (o + P.cellsOf f.type) fs
theorem reps_ones {p : Addr → Prop} {w : World} : ∀ {ds : List D} {cs : List Value}, Reps p w ds cs → (∀ d ∈ ds, d.plain = true) → ∀ u ∈ cs, u.oneCell' = true
  | [], cs, h, _, u, hu => by simp only [Reps] at h; subst h; simp at hu
  | d :: ds, cs, h, hp, u, hu => by
    simp only [Reps] at h
    obtain ⟨v, rest, rfl, h1, h2⟩ := h
    rcases List.mem_append.1 hu with hu | hu
    · exact h1.one (hp d (List.mem_cons_self ..)) u hu
    · exact reps_ones h2 (fun e he => hp e (List.mem_cons_of_mem _ he)) u hu
def total (P : Program) : List Field → Nat
  | [] => 0
  | f :: fs => P.cellsOf f.type + total P fs
def Ops : List Field → List (D → Prop) → Prop
  | [], [] => True
  | f :: fs, S :: ss => Op f.type ((Try.prog).cellsOf f.type) S ∧ Ops fs ss
  | _, _ => False
theorem fields_open {H : Type} {enc : TypeId × Value → H} {W : World} {base : Nat} {sp : Nat → Bool} {hd : Bool} {n : Nat} {cs : List Value} :
    ∀ (fs : List Field) (ss : List (D → Prop)) (o : Nat), Ops fs ss → tight Try.prog o fs = true → o + total Try.prog fs = cs.length →
      (∀ (i : Nat) (f : Field), fs[i]? = some f → ∃ x, DataW.trod enc Try.prog W base sp hd n f.type ((cs.drop f.offset).take ((Try.prog).cellsOf f.type)) = some x) →
      ∃ ds, Fits ss ds ∧ (∀ d ∈ ds, d.plain = true) ∧ szs ds = total Try.prog fs ∧ Reps (live W) W ds (cs.drop o)
  | [], [], o, _, _, hl, _ => ⟨[], trivial, by simp, rfl, by simp only [total] at hl; rw [List.drop_eq_nil_of_le (by omega)]; exact Reps.nil _ _⟩
  | f :: fs, S :: ss, o, hop, ht, hl, hx => by
    simp only [tight, Bool.and_eq_true, beq_iff_eq] at ht
    simp only [total] at hl
    obtain ⟨ds, h1, h2, h3, h4⟩ := fields_open fs ss (o + (Try.prog).cellsOf f.type) hop.2 ht.2 (by omega) fun i g hg => hx (i + 1) g hg
    obtain ⟨x, h5⟩ := hx 0 f rfl
    rw [ht.1] at h5
    obtain ⟨d, v, g1, g2, g3, g4, g5⟩ := hop.1 H enc W base sp hd n _ x h5
    refine ⟨d :: ds, ⟨g1, h1⟩, ?_, by simp only [szs, total, g3, h3], ?_⟩
    · intro e he
      rcases List.mem_cons.1 he with rfl | he
      · exact g2
      · exact h2 e he
    · have := Reps.cons g4 h4
      rw [← g5, ← List.drop_drop, List.take_append_drop] at this
      exact this
  | [], _ :: _, _, h, _, _, _ => h.elim
  | _ :: _, [], _, h, _, _, _ => h.elim
theorem op_struct {t : TypeId} {fs : Array Field} {n : Nat} (ht : (Try.prog).underlying t = some (.struct fs)) (ss : List (D → Prop)) (hs : Ops fs.toList ss) (h1 : tight Try.prog 0 fs.toList = true) (h2 : total Try.prog fs.toList = n) (h3 : (Try.prog).cellsOf t = n) :
    Op t n fun d => ∃ ds, d = .agg ds ∧ Fits ss ds := fun H enc W base sp hd fuel cs x hx => by
  obtain ⟨xs, m, _, _, hl, hlen, hf⟩ := DataW.trod_struct ht hx
  obtain ⟨ds, g1, g2, g3, g4⟩ := fields_open (enc := enc) (W := W) (base := base) (sp := sp) (hd := hd) (n := m) (cs := cs) fs.toList ss 0 hs h1 (by omega) fun i f hi => by
    have hi' : fs[i]? = some f := by simpa using hi
    have hlt : i < xs.length := by
      have := (Array.getElem?_eq_some_iff.1 hi').1
      omega
    exact ⟨xs[i], by rw [hf i f hi', List.getElem?_eq_getElem hlt]⟩
  refine ⟨.agg ds, .agg cs.toArray, ⟨ds, rfl, g1⟩, rfl, by simp only [sz]; omega, ?_, by simp [Value.cells]⟩
  simp only [Rep]
  rw [List.drop_zero] at g4
  exact ⟨cs, rfl, g4, reps_ones g4 g2⟩
/-- Data of one size as a layout. -/
def layD (n : Nat) (hn : 0 < n) (S : D → Prop) : Lay D where
  C := fun w d cs => S d ∧ d.plain = true ∧ sz d = n ∧ ∃ v, Rep (live w) w d v ∧ cs = v.cells.toList
  n := n
  pos := hn
  ext := fun ⟨h1, h2, h3, v, h4, h5⟩ e => ⟨h1, h2, h3, v, h4.grow (live_grow e), h5⟩
  len := fun ⟨_, _, h3, v, h4, h5⟩ => by rw [h5, ← h3, ← h4.sz]; simp
  one := fun ⟨_, h2, _, v, h4, h5⟩ u hu => by subst h5; exact h4.one h2 u hu
theorem layD_ls {n : Nat} {hn : 0 < n} {S : D → Prop} {w : World} : ∀ {l : List D} {xs : List Value}, (layD n hn S).Ls w l xs → (∀ d ∈ l, S d ∧ d.plain = true) ∧ Reps (live w) w l xs
  | [], xs, h => by
    have h : xs = [] := h
    subst h
    exact ⟨by simp, Reps.nil _ _⟩
  | d :: l, xs, ⟨cs, ys, h1, ⟨g1, g2, _, v, g4, g5⟩, h3⟩ => by
    obtain ⟨k1, k2⟩ := layD_ls h3
    subst h1 g5
    refine ⟨?_, Reps.cons g4 k2⟩
    intro e he
    rcases List.mem_cons.1 he with rfl | he
    · exact ⟨g1, g2⟩
    · exact k1 e he
theorem rd_live {w : World} {A : Option Addr} {xs : List Value} (h : Rd w A xs) : RdP (live w) w A xs := by
  rcases h with h | ⟨ad, rfl, hc⟩
  · exact .inl h
  · by_cases he : xs = []
    · exact .inl he
    · have hlen : 0 < xs.length := List.length_pos_iff.2 he
      have hsp : ad.spot = none := by
        have := cell_spot (hc 0 _ (List.getElem?_eq_getElem hlen))
        simpa [Addr.add] using this
      obtain ⟨b, o, sp⟩ := ad
      simp only at hsp
      subst hsp
      refine .inr ⟨b, o, rfl, fun j u hu => ?_⟩
      have h1 : w.cell? ⟨b, o + j, none⟩ = some u := by have := hc j u hu; rwa [add_flat] at this
      exact ⟨⟨u, h1⟩, h1⟩
theorem op_slice {t e : TypeId} {n : Nat} {S : D → Prop} (ht : (Try.prog).underlying t = some (.slice e)) (hn : (Try.prog).cellsOf e = n) (hp : 0 < n) (he : Op e n S) : Op t 1 fun d => ∃ l, d = .lst l ∧ ∀ x ∈ l, S x := fun H enc W base sp hd fuel cs x hx => by
  obtain ⟨l, v, rfl, h1⟩ := Lay.open_sl (L := layD n hp S) ht hn (fun m cs x _ h => by
    obtain ⟨d, v, g1, g2, g3, g4, g5⟩ := he H enc W base sp hd m cs x h
    exact ⟨d, g1, g2, g3, v, g4, g5⟩) hx
  obtain ⟨A, c, xs, rfl, h2, h3, h4, h5⟩ := h1
  obtain ⟨h6, h7⟩ := layD_ls h5
  refine ⟨.lst l, .slice A l.length c, ⟨l, rfl, fun d hd => (h6 d hd).1⟩, rfl, rfl, ?_, by simp [Value.cells]⟩
  simp only [Rep]
  exact ⟨A, c, xs, rfl, h2, h3, rd_live h4, h7, reps_ones h7 fun d hd => (h6 d hd).2⟩
/-- A list of data that all show something is the list of what they show. -/
theorem list_img {α : Type} {f : α → D} : ∀ {l : List D}, (∀ x ∈ l, ∃ a, x = f a) → ∃ av : List α, l = av.map f
  | [], _ => ⟨[], rfl⟩
  | d :: l, h => by
    obtain ⟨a, rfl⟩ := h d (List.mem_cons_self ..)
    obtain ⟨av, rfl⟩ := list_img fun x hx => h x (List.mem_cons_of_mem _ hx)
    exact ⟨a :: av, rfl⟩
theorem op_list {α : Type} {f : α → D} {t e : TypeId} {n : Nat} (ht : (Try.prog).underlying t = some (.slice e)) (hn : (Try.prog).cellsOf e = n) (hp : 0 < n) (he : Op e n fun d => ∃ a, d = f a) : Op t 1 fun d => ∃ av : List α, d = .lst (av.map f) :=
  (op_slice ht hn hp he).to fun d ⟨l, hl, h⟩ => by
    obtain ⟨av, rfl⟩ := list_img h
    exact ⟨av, hl⟩

/-! ### terms -/
mutual
theorem rep_ct {w : World} : ∀ {t : T} {cs : List Value}, CT w t cs → Reps (live w) w (fsT t) cs
  | .mk k i s ar, cs, h => by
    simp only [CT] at h
    obtain ⟨A, c, xs, rfl, ⟨h1, h2, h3, h4, h5⟩, h6, h7⟩ := h
    have g := rep_cl h7
    simp only [fsT, Reps, Rep]
    refine ⟨.int .i64 k, _, by simp [Value.cells]; rfl, ⟨rfl, wrap64 (by unfold I64 at h1; omega)⟩, .int .i64 i, _, by simp [Value.cells]; rfl, ⟨rfl, wrap64 (by unfold I64 at h2; omega)⟩, .string s, _, by simp [Value.cells]; rfl, ⟨rfl, h3⟩, .slice A ar.length c, _, by simp [Value.cells], ⟨A, c, xs, ?_, ?_, h5, rd_live h6, g, reps_ones g ?_⟩, rfl⟩
    · rw [encTs_eq]; simp
    · rw [encTs_eq]; simpa using h4
    · rw [encTs_eq]
      intro d hd
      obtain ⟨t, _, rfl⟩ := List.mem_map.1 hd
      rfl
theorem rep_cl {w : World} : ∀ {ts : List T} {xs : List Value}, CL w ts xs → Reps (live w) w (encTs ts) xs
  | [], xs, h => by
    simp only [CL] at h
    subst h
    simp only [encTs, Reps]
  | t :: ts, xs, h => by
    simp only [CL] at h
    obtain ⟨cs, ys, rfl, h1, h2⟩ := h
    have g := rep_ct h1
    simp only [encTs, Reps]
    refine ⟨.agg cs.toArray, ys, by simp [Value.cells], ?_, rep_cl h2⟩
    simp only [Rep]
    exact ⟨cs, rfl, g, reps_ones g fun d hd => by
      rw [fsT_eq] at hd
      simp only [List.mem_cons, List.not_mem_nil, or_false] at hd
      rcases hd with rfl | rfl | rfl | rfl <;> rfl⟩
end
theorem op_term : Op 51 4 fun d => ∃ t, d = encT t := fun H enc W base sp hd fuel cs x hx => by
  obtain ⟨t, ht⟩ := open_termF fuel cs x hx
  have g := rep_ct ht
  refine ⟨encT t, .agg cs.toArray, ⟨t, rfl⟩, rfl, sz_encT t, ?_, by simp [Value.cells]⟩
  simp only [Rep]
  exact ⟨cs, rfl, g, reps_ones g fun d hd => by
    rw [fsT_eq] at hd
    simp only [List.mem_cons, List.not_mem_nil, or_false] at hd
    rcases hd with rfl | rfl | rfl | rfl <;> rfl⟩
theorem op_terms : Op 27 1 fun d => ∃ l : List T, d = .lst (l.map encT) := op_list Try.underlying27 cells_term (by omega) op_term
theorem op_goal : Op 53 3 fun d => ∃ g, d = encG g :=
  (op_struct Try.underlying53 [fun d => ∃ n, d = .int .i64 n, fun d => ∃ s, d = .str s, fun d => ∃ l : List T, d = .lst (l.map encT)] ⟨op_i64 Try.underlying3, op_str Try.underlying9, op_terms, trivial⟩ (by kernel_rfl) (by kernel_rfl) cells_goal).to fun d ⟨ds, hd, h⟩ => by
    match ds, h with
    | [_, _, _], ⟨⟨n, rfl⟩, ⟨s, rfl⟩, ⟨l, rfl⟩, _⟩ => exact ⟨⟨n, s, l⟩, hd⟩
theorem op_ints : Op 47 1 fun d => ∃ l, d = encI l := op_list (f := fun n => .int .i64 n) Try.underlying47 cells_int (by omega) (op_i64 Try.underlying3)

/-! ### a law's arguments -/
/-- The value has the shape of its data. -/
def Cl (t : TypeId) (S : D → Prop) : Prop := ∀ (W : World) (b : Nat) (v : Value), Value.okWide Try.prog W .any b t v → ∀ d, S d → v = reval d v.cells.toList
theorem Cl.to {t : TypeId} {S S' : D → Prop} (h : Cl t S') (k : ∀ d, S d → S' d) : Cl t S := fun W b v hv d hd => h W b v hv d (k d hd)
theorem cl_struct {t : TypeId} {fs : Array Field} (ht : (Try.prog).underlying t = some (.struct fs)) : Cl t fun d => ∃ ds, d = .agg ds := fun W b v hv d ⟨ds, hd⟩ => by
  obtain ⟨cs, rfl, _⟩ := okWide_struct ht hv
  subst hd
  simp [Value.cells, reval]
theorem cl_slice {t e : TypeId} (ht : (Try.prog).underlying t = some (.slice e)) : Cl t fun d => ∃ l, d = .lst l := fun W b v hv d ⟨l, hd⟩ => by
  obtain ⟨a, n, c, rfl⟩ := okWide_slice ht hv
  subst hd
  simp [Value.cells, reval]
structure Arg where
  t : TypeId
  n : Nat
  S : D → Prop
  op : Op t n S
  cl : Cl t S
theorem args_open {H : Type} {enc : TypeId × Value → H} {W : World} {base b : Nat} {sp : Nat → Bool} {hd : Bool} : ∀ (av : List Arg) (vs : List Value) (ds : List (DataW H)) (ps : List MemPlace),
    DataW.TrodAll enc Try.prog W base sp hd (av.map Arg.t) vs ds ps → (∀ (j : Nat) t v, (av.map Arg.t)[j]? = some t → vs[j]? = some v → Value.okWide Try.prog W .any b t v) → ∃ es, Fits (av.map Arg.S) es ∧ Repl (live W) W es vs
  | [], vs, ds, ps, h, _ => by
    obtain ⟨rfl, _, _⟩ := trodAll_nil h
    exact ⟨[], trivial, Repl.nil _ _⟩
  | a :: av, vs, ds, ps, h, hv => by
    obtain ⟨v, vs', d, ds', p, q, rfl, rfl, rfl, ⟨fuel, h1⟩, h2⟩ := trodAll_cons h
    obtain ⟨es, g1, g2⟩ := args_open av vs' ds' q h2 fun j t u ht hu => hv (j + 1) t u ht hu
    obtain ⟨e, u, k1, k2, k3, k4, k5⟩ := a.op H enc W base sp hd fuel _ _ h1
    have e1 := a.cl W b v (hv 0 a.t v rfl rfl) e k1
    have e2 := k4.back
    rw [← k5] at e2
    rw [← e2] at e1
    subst e1
    exact ⟨e :: es, ⟨k1, g1⟩, Repl.cons k4 g2⟩
theorem holds_of {k : FuncId} {F : Func} (av : List Arg) (hp : F.params.toList = av.map Arg.t) (hg : ∀ es, Fits (av.map Arg.S) es → Gives Try.prog k es (.bool true)) : Holds k F := by
  intro H enc W base args ds p hval hA
  rw [hp] at hA
  obtain ⟨es, h1, h2⟩ := args_open (b := base) av args.toList ds p hA fun j t v ht hv => hval j t v (by rw [← Array.getElem?_toList, hp]; exact ht) (by simpa using hv)
  have hI : Inv (ctx W (live W) []) (live W) [] W := ⟨by simp, by simp [blks], by simp [blks], fun a ha => ha, Grow.refl _ _, fun a ha => .inl ha, rfl, rfl, rfl, Nat.le_refl _, fun b _ _ => rfl⟩
  refine (hg es h1 W (live W) args.toList hI h2).mono ?_
  rintro e w' (⟨v, d, σ, q, rfl, rfl, hr, hi⟩ | ⟨_, _, _, _, _, hx, _⟩)
  rotate_left
  · exact hx.elim
  simp only [Rep] at hr
  subst hr
  exact Ret.mk rfl ⟨hi.os, hi.tape, hi.output, hi.size, fun b hb => hi.block b hb (by simp [ctx, blks])⟩
end Go.Proofs.Ytnlncgjlhnodgaa


namespace Go.Proofs.Ytnlncgjlhnodgaa
set_option maxRecDepth 100000
open Go.ChangeShapes Go.WideShapes Go.ChangeAt Go.RowKit

theorem op_u8 {t : TypeId} (ht : (Try.prog).underlying t = some (.int .u8)) : Op t 1 fun d => ∃ n, d = .int .u8 n ∧ 0 ≤ n ∧ n ≤ 255 := fun H enc W base sp hd fuel cs x hx => by
  obtain ⟨k, rfl, _, w0⟩ := DataW.trod_int ht hx
  have hk : 0 ≤ k ∧ k ≤ 255 := by
    have w1 := w0
    simp [Lit.wf, IntKind.min, IntKind.max, IntKind.signed, IntKind.bits] at w1
    omega
  refine ⟨.int .u8 k, .int .u8 k, ⟨k, rfl, hk⟩, rfl, rfl, ?_, by simp [Value.cells]⟩
  simp only [Rep]
  exact ⟨trivial, by simp only [IntKind.wrap, IntKind.bits, IntKind.signed]; simp; omega⟩
theorem cl_u8 {t : TypeId} (ht : (Try.prog).underlying t = some (.int .u8)) : Cl t fun d => ∃ n, d = .int .u8 n := fun W b v hv d ⟨n, hd⟩ => by
  obtain ⟨m, rfl⟩ := okWide_int ht hv
  subst hd
  simp [Value.cells, reval]
theorem op_atom : Op 29 2 fun d => ∃ a, d = encA a :=
  (op_struct Try.underlying29 [fun d => ∃ s, d = .str s, fun d => ∃ l : List T, d = .lst (l.map encT)] ⟨op_str Try.underlying9, op_terms, trivial⟩ (by kernel_rfl) (by kernel_rfl) (by kernel_rfl)).to fun d ⟨ds, hd, h⟩ => by
    match ds, h with
    | [_, _], ⟨⟨s, rfl⟩, ⟨l, rfl⟩, _⟩ => exact ⟨⟨s, l⟩, hd⟩
theorem op_atoms : Op 23 1 fun d => ∃ l : List At, d = .lst (l.map encA) := op_list Try.underlying23 (by kernel_rfl) (by omega) op_atom
theorem op_goals : Op 36 1 fun d => ∃ l : List Gl, d = .lst (l.map encG) := op_list Try.underlying36 cells_goal (by omega) op_goal
theorem op_rank : Op 49 3 fun d => ∃ r, d = enc_S_api_Rank r :=
  (op_struct Try.underlying49 [fun d => ∃ s, d = .str s, fun d => ∃ n, d = .int .i64 n, fun d => ∃ l : List Int, d = .lst (l.map (D.int .i64))] ⟨op_str Try.underlying9, op_i64 Try.underlying3, op_ints, trivial⟩ (by kernel_rfl) (by kernel_rfl) (by kernel_rfl)).to fun d ⟨ds, hd, h⟩ => by
    match ds, h with
    | [_, _, _], ⟨⟨s, rfl⟩, ⟨n, rfl⟩, ⟨l, rfl⟩, _⟩ => exact ⟨⟨s, n, l⟩, hd⟩
theorem op_ranks : Op 22 1 fun d => ∃ l : List S_api_Rank, d = .lst (l.map enc_S_api_Rank) := op_list Try.underlying22 (by kernel_rfl) (by omega) op_rank
theorem op_rule : Op 38 6 fun d => ∃ r, d = enc_S_api_Rule r :=
  (op_struct Try.underlying38 [fun d => ∃ s, d = .str s, fun d => ∃ l : List At, d = .lst (l.map encA), fun d => ∃ l : List At, d = .lst (l.map encA), fun d => ∃ l : List Gl, d = .lst (l.map encG), fun d => ∃ l : List Gl, d = .lst (l.map encG), fun d => ∃ n, d = .int .i64 n] ⟨op_str Try.underlying9, op_atoms, op_atoms, op_goals, op_goals, op_i64 Try.underlying3, trivial⟩ (by kernel_rfl) (by kernel_rfl) (by kernel_rfl)).to fun d ⟨ds, hd, h⟩ => by
    match ds, h with
    | [_, _, _, _, _, _], ⟨⟨s, rfl⟩, ⟨a, rfl⟩, ⟨b, rfl⟩, ⟨c, rfl⟩, ⟨e, rfl⟩, ⟨n, rfl⟩, _⟩ => exact ⟨⟨s, a, b, c, e, n⟩, hd⟩
theorem op_rules : Op 42 1 fun d => ∃ l : List S_api_Rule, d = .lst (l.map enc_S_api_Rule) := op_list Try.underlying42 (by kernel_rfl) (by omega) op_rule
theorem op_decl : Op 55 2 fun d => ∃ q, d = enc_S_api_Decl q :=
  (op_struct Try.underlying55 [fun d => ∃ s, d = .str s, fun d => ∃ n, d = .int .i64 n] ⟨op_str Try.underlying9, op_i64 Try.underlying3, trivial⟩ (by kernel_rfl) (by kernel_rfl) (by kernel_rfl)).to fun d ⟨ds, hd, h⟩ => by
    match ds, h with
    | [_, _], ⟨⟨s, rfl⟩, ⟨n, rfl⟩, _⟩ => exact ⟨⟨s, n⟩, hd⟩
theorem op_decls : Op 41 1 fun d => ∃ l : List S_api_Decl, d = .lst (l.map enc_S_api_Decl) := op_list Try.underlying41 (by kernel_rfl) (by omega) op_decl
theorem op_program : Op 44 2 fun d => ∃ q, d = enc_S_api_Program q :=
  (op_struct Try.underlying44 [fun d => ∃ l : List S_api_Decl, d = .lst (l.map enc_S_api_Decl), fun d => ∃ l : List S_api_Rule, d = .lst (l.map enc_S_api_Rule)] ⟨op_decls, op_rules, trivial⟩ (by kernel_rfl) (by kernel_rfl) (by kernel_rfl)).to fun d ⟨ds, hd, h⟩ => by
    match ds, h with
    | [_, _], ⟨⟨s, rfl⟩, ⟨n, rfl⟩, _⟩ => exact ⟨⟨s, n⟩, hd⟩
def aRanks : Arg := ⟨_, _, _, op_ranks, (cl_slice Try.underlying22).to fun _ ⟨_, h⟩ => ⟨_, h⟩⟩
def aAtoms : Arg := ⟨_, _, _, op_atoms, (cl_slice Try.underlying23).to fun _ ⟨_, h⟩ => ⟨_, h⟩⟩
def aRule : Arg := ⟨_, _, _, op_rule, (cl_struct Try.underlying38).to fun _ ⟨_, h⟩ => ⟨_, h⟩⟩
def aProgram : Arg := ⟨_, _, _, op_program, (cl_struct Try.underlying44).to fun _ ⟨_, h⟩ => ⟨_, h⟩⟩
def aU8 : Arg := ⟨_, _, _, op_u8 Try.underlying5, (cl_u8 Try.underlying5).to fun _ ⟨_, h, _⟩ => ⟨_, h⟩⟩
end Go.Proofs.Ytnlncgjlhnodgaa

