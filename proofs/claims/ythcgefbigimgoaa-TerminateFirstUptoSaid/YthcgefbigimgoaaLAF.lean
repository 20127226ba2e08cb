/-
  Texts of the seat, merged.
-/
import Derived.Test.YthcgefbigimgoaaLAA
import Derived.Test.YthcgefbigimgoaaLAB
import Derived.Test.YthcgefbigimgoaaLAC
import Derived.Test.YthcgefbigimgoaaLAD
import Derived.Test.YthcgefbigimgoaaLAE
import Derived.Test.YthcgefbigimgoaaChecked
import Derived.WalkKit
import Derived.Lib.Hide
import Derived.Lib.AppendStr
import Derived.Deep.AppendLies
import Derived.Deep.AppendSrc
import Derived.Deep.Draws
import Derived.Deep.QuietTactic
import Derived.BigQuiet
import Derived.Deep.RegionWith
import Derived.Maps.AppendAt
import Derived.WalkSpells
import Derived.Orders
import Derived.Deep.Slices
import Derived.Deep.Fields
import Derived.ChangeArms
import Derived.Lib.OthersKept
import Derived.Lib.TrimU
import Derived.Lib.IndexAny
import Derived.Deep.LoopGhost
import Derived.Lib.Bytealg
import Derived.RangeFuncBox
import Derived.RangeFuncNested
import Derived.RangeFuncBound
import Derived.RangeFuncCalls
import Derived.RangeFuncLeaves
import Derived.Shelf.Abstract
import Derived.OwnWalkIn
import Derived.TacticsInMore
import Derived.LoopNIn
import Derived.LoopIn
import Derived.RangeFuncWrites
import Derived.Maps.OwnIn
import Derived.Maps.Views
import Derived.Laws.OwnMore
import Derived.Maps.OwnSet
import Derived.Test.YthcgefbigimgoaaRows
import Derived.ProofKit
import Derived.OpenShut
import Derived.Carry
import Derived.Great.BuildSlice
import Derived.ArgAppend
import Derived.Laws.MakeOwn
import Derived.Laws.Cover3
import Derived.Laws.CopyRow
import Derived.MapKept
import Derived.Maps.RangeRun
set_option linter.unusedVariables false
set_option linter.unusedSimpArgs false
set_option linter.unnecessarySimpa false
set_option linter.all false

namespace Go.Proofs.Ythcgefbigimgoaa
set_option maxRecDepth 100000
open Go.RowKit

/-! ### numbers that wrap -/
theorem wr_addL (a b : Int) : wr (wr a + b) = wr (a + b) := by
  simp only [wr, IntKind.wrap, IntKind.bits, IntKind.signed]
  simp
  split <;> split <;> split <;> omega
theorem wr_addR (a b : Int) : wr (a + wr b) = wr (a + b) := by rw [Int.add_comm, wr_addL, Int.add_comm]
theorem wr_wr (a : Int) : wr (wr a) = wr a := wrap_idem _ _

/-! ### the weight of what is small -/
/-- A constraint with few small arguments. -/
def Bf (a : At) : Prop := wtL a.ts ≤ 1048576
theorem Bf.wt {a : At} (h : Bf a) : wtL a.ts ≤ 1048576 := h
theorem wtL_mem {t : T} : ∀ {l : List T}, t ∈ l → Go.Proofs.Ythcgefbigimgoaa.wt t ≤ wtL l
  | u :: l, h => by
    simp only [wtL]
    rcases List.mem_cons.1 h with rfl | h
    · omega
    · have := wtL_mem h; omega
theorem Bf.one {a : At} (h : Bf a) : ∀ t ∈ a.ts, Go.Proofs.Ythcgefbigimgoaa.wt t ≤ 1048576 := fun t ht => Nat.le_trans (wtL_mem ht) h
/-! ### rankings -/
def isRk (s : ByteArray) (n : Int) (r : S_api_Rank) : Bool := (r.f0_Name.toList == s.toList) && ((r.f2_Factors.length : Int) == n)
def findRk (l : List S_api_Rank) (s : ByteArray) (n : Int) : S_api_Rank × Bool := match l.find? (isRk s n) with
  | some r => (r, true)
  | none => (⟨⟨#[]⟩, 0, []⟩, false)
theorem refFind_lf (s : ByteArray) (n : Int) : ∀ l, lf_constraintref41_find l s n = some (findRk l s n) := by
  intro l
  rw [lf_constraintref41_find]
  induction l with
  | nil => rw [lf_constraintref41_find_L0]; rfl
  | cons r l ih =>
    rw [lf_constraintref41_find_L0, ih]
    cases h1 : (r.f0_Name.toList == s.toList) <;> cases h2 : ((r.f2_Factors.length : Int) == n) <;> simp [findRk, List.find?, isRk, h1, h2]
theorem find1_lf (s : ByteArray) (n : Int) (r : S_api_Rank) : lf_rank_find_1 r s n = some (isRk s n r) := by
  rw [lf_rank_find_1, isRk]
  cases h1 : (r.f0_Name.toList == s.toList) <;> rfl
theorem index1_lf (s : ByteArray) (n : Int) : ∀ (l : List S_api_Rank) (i : Nat), (l.find? (isRk s n) = none ∧ lf_slices_IndexFunc_s1_L0 (some (-1)) s n l i = some (-1)) ∨ ∃ j r, l.find? (isRk s n) = some r ∧ l[j]? = some r ∧ lf_slices_IndexFunc_s1_L0 (some (-1)) s n l i = some ((i + j : Nat) : Int)
  | [], i => .inl ⟨rfl, by rw [lf_slices_IndexFunc_s1_L0]⟩
  | r :: l, i => by
    rw [lf_slices_IndexFunc_s1_L0, find1_lf]
    simp only [Option.bind_some, List.find?]
    cases h : isRk s n r with
    | true => exact .inr ⟨0, r, rfl, rfl, rfl⟩
    | false =>
      rcases index1_lf s n l (i + 1) with ⟨e1, e2⟩ | ⟨j, q, e1, e2, e3⟩
      · exact .inl ⟨e1, e2⟩
      · exact .inr ⟨j + 1, q, e1, by simpa using e2, by rw [show i + (j + 1) = i + 1 + j by omega]; exact e3⟩
theorem find_lf (l : List S_api_Rank) (s : ByteArray) (n : Int) : lf_rank_find l s n = some (findRk l s n) := by
  rw [lf_rank_find, lf_slices_IndexFunc_s1, findRk]
  rcases index1_lf s n l 0 with ⟨e1, e2⟩ | ⟨j, q, e1, e2, e3⟩
  · rw [e2, e1]; rfl
  · rw [e3, e1]
    simp only [Option.bind_some, Nat.zero_add]
    rw [decide_eq_false (by omega), getI_nat, e2]
    rfl
def inRk (n : Int) : Bool := decide (0 ≤ n ∧ n ≤ 1048576)
def rightRk (r : S_api_Rank) : Bool := inRk r.f1_Const && decide (r.f2_Factors.length ≤ 6) && r.f2_Factors.all inRk
theorem bad_lf (n : Int) : lf_rank_right_1 n = some (!inRk n) := by
  rw [lf_rank_right_1, inRk]
  by_cases h : n < 0
  · rw [decide_eq_true h, decide_eq_false (show ¬ (0 ≤ n ∧ n ≤ 1048576) by omega)]; rfl
  · rw [decide_eq_false h]
    by_cases h2 : n > 1048576
    · rw [decide_eq_true h2, decide_eq_false (show ¬ (0 ≤ n ∧ n ≤ 1048576) by omega)]; rfl
    · rw [decide_eq_false h2, decide_eq_true (show 0 ≤ n ∧ n ≤ 1048576 by omega)]; rfl
theorem index2_lf : ∀ (l : List Int) (i : Nat), ∃ r, lf_slices_IndexFunc_s2_L0 (some (-1)) l i = some r ∧ (decide (r ≥ 0) = !l.all inRk)
  | [], i => ⟨-1, by rw [lf_slices_IndexFunc_s2_L0], rfl⟩
  | n :: l, i => by
    rw [lf_slices_IndexFunc_s2_L0, bad_lf]
    simp only [Option.bind_some, List.all_cons]
    cases h : inRk n with
    | false => exact ⟨(i : Int), rfl, by simp⟩
    | true =>
      obtain ⟨r, e1, e2⟩ := index2_lf l (i + 1)
      exact ⟨r, e1, by simpa using e2⟩
theorem right_lf (r : S_api_Rank) : lf_rank_right r = some (rightRk r) := by
  rw [lf_rank_right, bad_lf, rightRk]
  simp only [Option.bind_some, Bool.not_not]
  cases h : inRk r.f1_Const with
  | false => rfl
  | true =>
    by_cases h2 : (r.f2_Factors.length : Int) ≤ 6
    · rw [decide_eq_true h2, decide_eq_true (show r.f2_Factors.length ≤ 6 by omega), lf_slices_ContainsFunc_s1, lf_slices_IndexFunc_s2]
      obtain ⟨q, e1, e2⟩ := index2_lf r.f2_Factors 0
      rw [e1]
      simp [e2]
    · rw [decide_eq_false h2, decide_eq_false (show ¬ r.f2_Factors.length ≤ 6 by omega)]
      simp
theorem refRight_L0 : ∀ l : List Int, lf_constraintref41_right_L0 (some true) l = some (l.all inRk)
  | [] => by rw [lf_constraintref41_right_L0]; rfl
  | n :: l => by
    rw [lf_constraintref41_right_L0, refRight_L0 l, List.all_cons, inRk]
    by_cases h : n < 0
    · rw [decide_eq_true h, decide_eq_false (show ¬ (0 ≤ n ∧ n ≤ 1048576) by omega)]; rfl
    · rw [decide_eq_false h]
      by_cases h2 : n > 1048576
      · rw [decide_eq_true h2, decide_eq_false (show ¬ (0 ≤ n ∧ n ≤ 1048576) by omega)]; rfl
      · rw [decide_eq_false h2, decide_eq_true (show 0 ≤ n ∧ n ≤ 1048576 by omega)]; rfl
theorem refRight_lf (r : S_api_Rank) : lf_constraintref41_right r = some (rightRk r) := by
  rw [lf_constraintref41_right, refRight_L0, rightRk, inRk]
  by_cases h : r.f1_Const < 0
  · rw [decide_eq_true h, decide_eq_false (show ¬ (0 ≤ r.f1_Const ∧ r.f1_Const ≤ 1048576) by omega)]; rfl
  · rw [decide_eq_false h]
    by_cases h2 : r.f1_Const > 1048576
    · rw [decide_eq_true h2, decide_eq_false (show ¬ (0 ≤ r.f1_Const ∧ r.f1_Const ≤ 1048576) by omega)]; rfl
    · rw [decide_eq_false h2, decide_eq_true (show 0 ≤ r.f1_Const ∧ r.f1_Const ≤ 1048576 by omega)]
      by_cases h3 : (r.f2_Factors.length : Int) > 6
      · rw [decide_eq_true h3, decide_eq_false (show ¬ r.f2_Factors.length ≤ 6 by omega)]; rfl
      · rw [decide_eq_false h3, decide_eq_true (show r.f2_Factors.length ≤ 6 by omega)]; rfl
theorem valid_lf (l : List S_api_Rank) : lf_rank_valid l = some (l.all rightRk) := by
  rw [lf_rank_valid]
  induction l with
  | nil => rw [lf_rank_valid_L0]; rfl
  | cons r l ih =>
    rw [lf_rank_valid_L0, right_lf, ih, List.all_cons]
    simp only [Option.bind_some]
    cases rightRk r <;> rfl
theorem refValid_lf (l : List S_api_Rank) : lf_constraintref41_valid l = some (l.all rightRk) := by
  rw [lf_constraintref41_valid]
  induction l with
  | nil => rw [lf_constraintref41_valid_L0]; rfl
  | cons r l ih =>
    rw [lf_constraintref41_valid_L0, refRight_lf, ih, List.all_cons]
    simp only [Option.bind_some]
    cases rightRk r <;> rfl

/-! ### the variables of the reference -/
theorem has_L0 (n : Int) : ∀ l : List Int, lf_constraintref03_has_L0 (some false) n l = some (decide (n ∈ l))
  | [] => by rw [lf_constraintref03_has_L0]; rfl
  | x :: l => by
    rw [lf_constraintref03_has_L0, has_L0 n l]
    by_cases h : x = n
    · subst h; simp
    · have h' : n ≠ x := fun e => h e.symm
      rw [beq_false_of_ne h]
      simp [h']
theorem has_lf (l : List Int) (n : Int) : lf_constraintref03_has l n = some (decide (n ∈ l)) := has_L0 n l
theorem refArgs_lf (t : T) : lf_constraintref03_args t = some t.used := by
  rw [lf_constraintref03_args, T.used]
  by_cases h : t.k = 2
  · rw [if_pos h, show (t.k == (2 : Int)) = true by simpa using h]; rfl
  · rw [if_neg h, show (t.k == (2 : Int)) = false by simpa using h]; rfl
theorem vars_L0 {rec : List Int → T → Option (List Int)} (k : List Int → Option (List Int)) : ∀ (ts : List T) (l : List Int) (m : Nat), (∀ t ∈ ts, ∀ l : List Int, l.length + wt t ≤ m → rec l t = some (uniq l (occT t))) → l.length + wtL ts ≤ m → lf_constraintref03_vars_s1_L0 k rec ts l = k (uniq l (occL ts))
  | [], l, m, _, _ => by rw [lf_constraintref03_vars_s1_L0]; simp [occL, uniq_nil]
  | t :: ts, l, m, h, hm => by
    simp only [wtL] at hm
    rw [lf_constraintref03_vars_s1_L0, h t (List.mem_cons_self ..) l (by omega)]
    simp only [Option.bind_some]
    have hl := uniq_len (occT t) l
    have ho := occ_wt t
    rw [vars_L0 k ts _ m (fun u hu => h u (List.mem_cons_of_mem _ hu)) (by omega), ← uniq_app]
    simp [occL]
theorem vars_lf : ∀ (fuel : Nat) (t : T) (l : List Int), wt t < fuel → l.length + wt t ≤ 1000000000 → lf_constraintref03_vars_s1 fuel l t = some (uniq l (occT t))
  | 0, _, _, h, _ => by omega
  | fuel + 1, t, l, h, hm => by
    rw [lf_constraintref03_vars_s1]
    have hwt := wt_eq t
    have key : ∀ l' : List Int, l'.length ≤ l.length + 1 → lf_constraintref03_vars_s1_L0 (fun l_9 => some l_9) (lf_constraintref03_vars_s1 fuel) t.used l' = some (uniq l' (occL t.used)) := fun l' hl' => by
      have hu := wtL_used t
      refine vars_L0 _ t.used l' (l'.length + wtL t.used) (fun u hu' l2 hl2 => vars_lf fuel u l2 ?_ ?_) (Nat.le_refl _)
      · have := wt_used hu'; omega
      · omega
    show lf_constraintref03_vars_s1_J0 _ _ _ = _
    unfold lf_constraintref03_vars_s1_J0
    rw [has_lf]
    simp only [Option.bind_some, refArgs_lf]
    by_cases hk : t.k = 1
    · rw [show (t.k == (1 : Int)) = true by simpa using hk]
      have hused : t.used = [] := by unfold T.used; rw [if_neg (by omega)]
      have hocc := occT_var hk
      simp only [cond_true]
      by_cases hx : t.i ∈ l
      · rw [decide_eq_true hx]
        simp only [Bool.not_true, cond_false]
        rw [key l (by omega), hocc, hused]
        simp [occL, uniq, addU, hx]
      · rw [decide_eq_false hx]
        simp only [Bool.not_false, cond_true]
        rw [appO_eq (by simp; omega) (by simp; omega)]
        simp only [Option.bind_some]
        rw [key _ (by simp), hocc, hused]
        simp [occL, uniq, addU, hx]
    · rw [show (t.k == (1 : Int)) = false by simpa using hk]
      simp only [cond_false]
      rw [key l (by omega), occT_eq hk]
theorem varsOf_L0 (fuel : Nat) (k : List Int → Option (List Int)) : ∀ (ts : List T) (l : List Int), wtL ts < fuel → l.length + wtL ts ≤ 1000000000 → lf_constraintref03_VarsOf_L0 k fuel ts l = k (uniq l (occL ts))
  | [], l, _, _ => by rw [lf_constraintref03_VarsOf_L0]; simp [occL, uniq_nil]
  | t :: ts, l, h, hm => by
    simp only [wtL] at h hm
    rw [lf_constraintref03_VarsOf_L0, vars_lf fuel t l (by omega) (by omega)]
    simp only [Option.bind_some]
    have hl := uniq_len (occT t) l
    have ho := occ_wt t
    rw [varsOf_L0 fuel k ts _ (by omega) (by omega), ← uniq_app]
    simp [occL]
theorem atomVars_lf (fuel : Nat) (a : At) (h : wtL a.ts < fuel) (hm : wtL a.ts ≤ 1000000000) : lf_constraintref03_AtomVars fuel a = some (uniq [] (occL a.ts)) := by
  rw [lf_constraintref03_AtomVars, lf_constraintref03_VarsOf, varsOf_L0 fuel _ a.ts [] h (by simpa using hm)]
  rfl

/-! ### the rank of a constraint -/
theorem findRk_len {l : List S_api_Rank} {s : ByteArray} {n : Int} (h : (findRk l s n).2 = true) : ((findRk l s n).1.f2_Factors.length : Int) = n ∧ (findRk l s n).1 ∈ l := by
  unfold findRk at h ⊢
  cases e : l.find? (isRk s n) with
  | none => rw [e] at h; cases h
  | some r =>
    have h1 := List.find?_some e
    simp only [isRk, Bool.and_eq_true, beq_iff_eq] at h1
    exact ⟨h1.2, List.mem_of_find?_eq_some e⟩
/-! ### the sum -/
end Go.Proofs.Ythcgefbigimgoaa


namespace Go.Proofs.Ythcgefbigimgoaa
set_option maxRecDepth 100000
open Go.RowKit

/-! ### maps in the order of insertion -/
theorem filter_mput (p : Int → Bool) : ∀ (m : List (Int × Int)) (v d : Int), (mput m v d).filter (fun q => p q.1) = if p v = true then mput (m.filter fun q => p q.1) v d else m.filter fun q => p q.1
  | [], v, d => by cases h : p v <;> simp [mput, h]
  | q :: m, v, d => by
    simp only [mput]
    by_cases hq : q.1 = v
    · rw [if_pos hq]
      cases h : p v with
      | true => simp [h, hq, mput]
      | false => simp [h, hq]
    · rw [if_neg hq]
      have ih := filter_mput p m v d
      cases hp : p q.1 with
      | true =>
        rw [List.filter_cons_of_pos (by exact hp), ih, List.filter_cons_of_pos (by exact hp)]
        cases h : p v with
        | true => simp [mput, hq]
        | false => simp
      | false =>
        rw [List.filter_cons_of_neg (by simp [hp]), ih, List.filter_cons_of_neg (by simp [hp])]
theorem mget_filter (p : Int → Bool) (v : Int) (h : p v = true) : ∀ m : List (Int × Int), mget (m.filter fun q => p q.1) v = mget m v
  | [] => rfl
  | q :: m => by
    cases hp : p q.1 with
    | true =>
      rw [List.filter_cons_of_pos (by exact hp)]
      simp only [mget, mget_filter p v h m]
    | false =>
      rw [List.filter_cons_of_neg (by simp [hp]), mget_filter p v h m, mget, if_neg (fun e => by rw [e, h] at hp; cases hp)]
def sumV : List (Int × Int) → Int
  | [] => 0
  | q :: m => q.2 + sumV m
theorem sum_mput (v τ : Int) : ∀ (m : List (Int × Int)) (x : Int), wr (x + sumV (mput m v (wr ((mget m v).getD 0 + τ)))) = wr (x + sumV m + τ)
  | [], x => by simp only [mput, mget, sumV, Option.getD_none, Int.zero_add, Int.add_zero]; rw [wr_addR]
  | q :: m, x => by
    simp only [mput, mget]
    split
    · simp only [Option.getD_some, sumV]
      rw [show x + (wr (q.2 + τ) + sumV m) = wr (q.2 + τ) + (x + sumV m) by omega, wr_addL]
      congr 1; omega
    · simp only [sumV]
      rw [← Int.add_assoc, sum_mput v τ m (x + q.2), Int.add_assoc x q.2]
theorem sum_split (p : Int → Bool) : ∀ m : List (Int × Int), sumV m = sumV (m.filter fun q => p q.1) + sumV (m.filter fun q => !p q.1)
  | [] => rfl
  | q :: m => by
    have ih := sum_split p m
    cases hp : p q.1 with
    | true => rw [List.filter_cons_of_pos (by exact hp), List.filter_cons_of_neg (by simp [hp])]; simp only [sumV]; omega
    | false => rw [List.filter_cons_of_neg (by simp [hp]), List.filter_cons_of_pos (by simp [hp])]; simp only [sumV]; omega

/-! ### the reference's lists -/
theorem find2_L2 (c0 : Int) (V F : List Int) (τ : Int) (t : T) (hτ : wr τ = τ) : ∀ (z1 z2 : List (Int × Int)), V = (z1 ++ z2).map (·.1) → F = (z1 ++ z2).map (·.2) →
    lf_Pconstraintref41_form_add_s1_L2 (some (c0, ((z1 ++ z2) ++ [(t.i, τ)]).map (·.1), ((z1 ++ z2) ++ [(t.i, τ)]).map (·.2))) c0 V F τ t (z2.map (·.1)) z1.length = some (c0, (z1 ++ mput z2 t.i (wr ((mget z2 t.i).getD 0 + τ))).map (·.1), (z1 ++ mput z2 t.i (wr ((mget z2 t.i).getD 0 + τ))).map (·.2))
  | z1, [], hV, hF => by
    simp only [List.map_nil]
    rw [lf_Pconstraintref41_form_add_s1_L2]
    simp [mput, mget, hτ]
  | z1, q :: z2, hV, hF => by
    simp only [List.map_cons]
    rw [lf_Pconstraintref41_form_add_s1_L2]
    by_cases hq : q.1 = t.i
    · rw [show (q.1 == t.i) = true by simpa using hq]
      have hg : getI F (z1.length : Int) = some q.2 := by rw [getI_nat, hF]; simp
      have hset : F.set z1.length (wr (q.2 + τ)) = (z1 ++ (q.1, wr (q.2 + τ)) :: z2).map (·.2) := by rw [hF]; simp
      simp only [cond_true, hg, Option.bind_some, mput, mget, hq, if_true, Option.getD_some, Int.toNat_natCast, hset, hV]
      simp [hq]
    · rw [show (q.1 == t.i) = false by simpa using hq]
      have ih := find2_L2 c0 V F τ t hτ (z1 ++ [q]) z2 (by rw [hV]; simp) (by rw [hF]; simp)
      simp only [List.append_assoc, List.singleton_append, List.length_append, List.length_singleton] at ih
      simp only [cond_false, mput, mget, if_neg hq, List.append_assoc]
      exact ih
theorem in_lf (l : List Int) (n : Int) : lf_constraintref41_in l n = some (decide (n ∈ l)) := by
  rw [lf_constraintref41_in]
  induction l with
  | nil => rw [lf_constraintref41_in_L0]; rfl
  | cons x l ih =>
    rw [lf_constraintref41_in_L0, ih]
    by_cases h : x = n
    · subst h; simp
    · have h' : n ≠ x := fun e => h e.symm
      rw [beq_false_of_ne h]
      simp [h']

/-! ### a term -/
mutual
/-- A variable has no arguments. -/
def NV : T → Prop
  | .mk k _ _ ar => (k = 1 → ar = []) ∧ NVL ar
def NVL : List T → Prop
  | [] => True
  | t :: ts => NV t ∧ NVL ts
end
theorem NV.ar {t : T} (h : NV t) : NVL t.ar := by cases t; simp only [NV] at h; exact h.2
theorem NV.var {t : T} (h : NV t) (hk : t.k = 1) : t.ar = [] := by cases t; simp only [NV] at h; exact h.1 hk
mutual
theorem nv_form : ∀ (t : T), formT t = true → NV t
  | .mk k i s ar, h => by
    simp only [formT] at h
    simp only [NV]
    split at h
    · rename_i hk
      obtain ⟨_, _, _, h4⟩ := of_decide_eq_true h
      obtain rfl := List.eq_nil_of_length_eq_zero h4
      exact ⟨fun _ => rfl, trivial⟩
    · split at h
      · obtain ⟨_, _, _, h4⟩ := of_decide_eq_true h
        obtain rfl := List.eq_nil_of_length_eq_zero h4
        exact ⟨fun _ => rfl, trivial⟩
      · split at h
        · rename_i h1 h2
          simp only [Bool.and_eq_true] at h
          exact ⟨fun e => absurd e (by omega), nvl_form ar h.2⟩
        · cases h
theorem nvl_form : ∀ (l : List T), formL l = true → NVL l
  | [], _ => trivial
  | t :: l, h => by
    simp only [formL, Bool.and_eq_true] at h
    exact ⟨nv_form t h.1, nvl_form l h.2⟩
end
/-- The program's state and the reference's. -/
def InvF (ones : List Int) (c : Int) (m : List (Int × Int)) (c2 : Int) (V F : List Int) : Prop :=
  wr c = c ∧ V = (m.filter fun q => !decide (q.1 ∈ ones)).map (·.1) ∧ F = (m.filter fun q => !decide (q.1 ∈ ones)).map (·.2) ∧ c2 = wr (c + sumV (m.filter fun q => decide (q.1 ∈ ones)))
theorem invF_const {ones : List Int} {c c2 τ : Int} {m : List (Int × Int)} {V F : List Int} (h : InvF ones c m c2 V F) : InvF ones (wr (c + τ)) m (wr (c2 + τ)) V F := by
  obtain ⟨h1, h2, h3, h4⟩ := h
  refine ⟨wr_wr _, h2, h3, ?_⟩
  rw [h4, wr_addL, wr_addL]
  congr 1; omega
theorem size_simL {fuel : Nat} {ones : List Int} {τ : Int} (ih : ∀ (t : T) (c : Int) (m : List (Int × Int)) (c2 : Int) (V F : List Int), NV t → wt t < fuel → m.length + wt t ≤ 1000000000 → InvF ones c m c2 V F →
    ∃ c' m' c2' V' F', lf_Prank_form_size_s1 fuel t τ c m = some (c', m') ∧ lf_Pconstraintref41_form_add_s1 fuel t τ ones c2 V F = some (c2', V', F') ∧ InvF ones c' m' c2' V' F' ∧ m'.length ≤ m.length + wt t) :
    ∀ (l : List T) (c : Int) (m : List (Int × Int)) (c2 : Int) (V F : List Int), NVL l → wtL l < fuel → m.length + wtL l ≤ 1000000000 → InvF ones c m c2 V F →
    ∃ c' m' c2' V' F', lf_Prank_form_size_s1_L0 (fun f_6 mm_7 => some (f_6, mm_7)) (lf_Prank_form_size_s1 fuel) τ l c m = some (c', m') ∧ lf_Pconstraintref41_form_add_s1_L0 (fun f_10 f_11 f_12 => some (f_10, f_11, f_12)) (lf_Pconstraintref41_form_add_s1 fuel) τ ones l c2 V F = some (c2', V', F') ∧ InvF ones c' m' c2' V' F' ∧ m'.length ≤ m.length + wtL l
  | [], c, m, c2, V, F, _, _, _, h => ⟨c, m, c2, V, F, by rw [lf_Prank_form_size_s1_L0], by rw [lf_Pconstraintref41_form_add_s1_L0], h, by omega⟩
  | t :: l, c, m, c2, V, F, hn, hw, hl, h => by
    simp only [wtL] at hw hl
    obtain ⟨c1, m1, c3, V1, F1, e1, e2, e3, e4⟩ := ih t c m c2 V F hn.1 (by omega) (by omega) h
    obtain ⟨c', m', c2', V', F', f1, f2, f3, f4⟩ := size_simL ih l c1 m1 c3 V1 F1 hn.2 (by omega) (by omega) e3
    refine ⟨c', m', c2', V', F', ?_, ?_, f3, by simp only [wtL]; omega⟩
    · rw [lf_Prank_form_size_s1_L0, e1]; exact f1
    · rw [lf_Pconstraintref41_form_add_s1_L0, e2]; exact f2
theorem size_sim (ones : List Int) (τ : Int) (hτ : wr τ = τ) : ∀ (fuel : Nat) (t : T) (c : Int) (m : List (Int × Int)) (c2 : Int) (V F : List Int), NV t → wt t < fuel → m.length + wt t ≤ 1000000000 → InvF ones c m c2 V F →
    ∃ c' m' c2' V' F', lf_Prank_form_size_s1 fuel t τ c m = some (c', m') ∧ lf_Pconstraintref41_form_add_s1 fuel t τ ones c2 V F = some (c2', V', F') ∧ InvF ones c' m' c2' V' F' ∧ m'.length ≤ m.length + wt t
  | 0, _, _, _, _, _, _, _, h, _, _ => by omega
  | fuel + 1, t, c, m, c2, V, F, hn, hw, hl, h => by
    have hwt := wt_eq t
    rw [lf_Prank_form_size_s1, lf_Pconstraintref41_form_add_s1]
    by_cases hk : t.k = 1
    · have har := hn.var hk
      have hlen := mput_len m t.i (wr ((mget m t.i).getD 0 + τ))
      obtain ⟨h1, h2, h3, h4⟩ := h
      have ef := filter_mput (fun v => !decide (v ∈ ones)) m t.i (wr ((mget m t.i).getD 0 + τ))
      have eo := filter_mput (fun v => decide (v ∈ ones)) m t.i (wr ((mget m t.i).getD 0 + τ))
      have hput : mputO m t.i (wr ((mget m t.i).getD 0 + τ)) = some (mput m t.i (wr ((mget m t.i).getD 0 + τ))) := if_pos (by omega)
      simp only [show (t.k == (1 : Int)) = true by simpa using hk, show (t.k != (1 : Int)) = false by simp [hk], cond_true, cond_false, hput, in_lf, Option.bind_some, har]
      by_cases ho : t.i ∈ ones
      · simp only [ho, decide_true, cond_true, Bool.not_true, Bool.false_eq_true, if_false, if_true] at ef eo ⊢
        rw [lf_Pconstraintref41_form_add_s1_L1]
        refine ⟨_, _, _, _, _, rfl, rfl, ⟨h1, by rw [ef]; exact h2, by rw [ef]; exact h3, ?_⟩, by omega⟩
        rw [eo, ← mget_filter (fun v => decide (v ∈ ones)) t.i (by simpa using ho) m, sum_mput, h4, wr_addL]
      · simp only [ho, decide_false, cond_false, Bool.not_false, Bool.false_eq_true, if_false, if_true] at ef eo ⊢
        have hfl : (m.filter fun q => !decide (q.1 ∈ ones)).length ≤ m.length := List.length_filter_le _ _
        have a1 : appO 8 V [t.i] = some (V ++ [t.i]) := appO_eq (by rw [h2]; simp only [List.length_map, List.length_singleton]; omega) (by rw [h2]; simp only [List.length_map, List.length_singleton]; omega)
        have a2 : appO 8 F [τ] = some (F ++ [τ]) := appO_eq (by rw [h3]; simp only [List.length_map, List.length_singleton]; omega) (by rw [h3]; simp only [List.length_map, List.length_singleton]; omega)
        have hf := find2_L2 c2 V F τ t hτ [] (m.filter fun q => !decide (q.1 ∈ ones)) (by simpa using h2) (by simpa using h3)
        simp only [List.nil_append, List.map_append, List.map_cons, List.map_nil, List.length_nil, ← h2, ← h3] at hf
        simp only [a1, a2, Option.bind_some]
        refine ⟨_, _, _, _, _, rfl, hf, ⟨h1, ?_, ?_, by rw [eo]; exact h4⟩, by omega⟩
        · rw [ef, ← mget_filter (fun v => !decide (v ∈ ones)) t.i (by simpa using ho) m]
        · rw [ef, ← mget_filter (fun v => !decide (v ∈ ones)) t.i (by simpa using ho) m]
    · simp only [show (t.k == (1 : Int)) = false by simpa using hk, show (t.k != (1 : Int)) = true by simpa using hk, cond_true, cond_false]
      obtain ⟨c', m', c2', V', F', f1, f2, f3, f4⟩ := size_simL (fun u c m c2 V F g1 g2 g3 g4 => size_sim ones τ hτ fuel u c m c2 V F g1 g2 g3 g4) t.ar (wr (c + τ)) m (wr (c2 + τ)) V F hn.ar (by omega) (by omega) (invF_const h)
      exact ⟨c', m', c2', V', F', f1, f2, f3, by omega⟩

/-! ### a constraint -/
theorem atom_simL (fuel : Nat) (ones : List Int) (r : S_api_Rank × Bool) (sign : Int) : ∀ (ts : List T) (i : Nat) (c : Int) (m : List (Int × Int)) (c2 : Int) (V F : List Int), NVL ts → wtL ts < fuel → m.length + wtL ts ≤ 1000000000 → r.1.f2_Factors.length = i + ts.length → InvF ones c m c2 V F →
    ∃ c' m' c2' V' F', lf_Prank_form_add_s1_L0 (fun f_11 mm_12 => some (true, f_11, mm_12)) fuel r sign ts i c m = some (true, c', m') ∧ lf_Pconstraintref41_form_put_s1_L0 (fun f_16 f_17 f_18 => some (true, f_16, f_17, f_18)) fuel ones r sign ts i c2 V F = some (true, c2', V', F') ∧ InvF ones c' m' c2' V' F' ∧ m'.length ≤ m.length + wtL ts
  | [], i, c, m, c2, V, F, _, _, _, _, h => ⟨c, m, c2, V, F, by rw [lf_Prank_form_add_s1_L0], by rw [lf_Pconstraintref41_form_put_s1_L0], h, by omega⟩
  | t :: ts, i, c, m, c2, V, F, hn, hw, hl, hf, h => by
    simp only [wtL] at hw hl
    simp only [List.length_cons] at hf
    have hi : i < r.1.f2_Factors.length := by omega
    have hg : getI r.1.f2_Factors (i : Int) = some (r.1.f2_Factors[i]) := by rw [getI_nat]; exact List.getElem?_eq_getElem hi
    obtain ⟨c1, m1, c3, V1, F1, e1, e2, e3, e4⟩ := size_sim ones (wr (sign * r.1.f2_Factors[i])) (wr_wr _) fuel t c m c2 V F hn.1 (by omega) (by omega) h
    obtain ⟨c', m', c2', V', F', f1, f2, f3, f4⟩ := atom_simL fuel ones r sign ts (i + 1) c1 m1 c3 V1 F1 hn.2 (by omega) (by omega) (by omega) e3
    refine ⟨c', m', c2', V', F', ?_, ?_, f3, by simp only [wtL]; omega⟩
    · rw [lf_Prank_form_add_s1_L0, hg]
      simp only [Option.bind_some, e1]
      exact f1
    · rw [lf_Pconstraintref41_form_put_s1_L0, hg]
      simp only [Option.bind_some, e2]
      exact f2
theorem atom_sim (fuel : Nat) (hf : 1048577 ≤ fuel) (ranks : List S_api_Rank) (ones : List Int) (a : At) (hb : Bf a) (sign : Int) (c : Int) (m : List (Int × Int)) (c2 : Int) (V F : List Int) (hl : m.length ≤ 200000000) (h : InvF ones c m c2 V F) :
    ∃ b c' m' c2' V' F', lf_Prank_form_add_s1 fuel ranks a sign c m = some (b, c', m') ∧ lf_Pconstraintref41_form_put_s1 fuel ranks a sign ones c2 V F = some (b, c2', V', F') ∧ InvF ones c' m' c2' V' F' ∧ m'.length ≤ m.length + 1048576 := by
  have hw := hb.wt
  rw [lf_Prank_form_add_s1, lf_Pconstraintref41_form_put_s1, find_lf, refFind_lf]
  simp only [Option.bind_some, right_lf, refRight_lf, x_rightA_eq a (show wtL a.ts ≤ 1000000000 by omega)]
  cases h1 : (findRk ranks a.n (a.ts.length : Int)).2 with
  | false => exact ⟨false, c, m, c2, V, F, rfl, rfl, h, by omega⟩
  | true =>
    cases h2 : rightRk (findRk ranks a.n (a.ts.length : Int)).1 with
    | false => exact ⟨false, c, m, c2, V, F, rfl, rfl, h, by omega⟩
    | true =>
      cases h3 : rightA a with
      | false => exact ⟨false, c, m, c2, V, F, rfl, rfl, h, by omega⟩
      | true =>
        have hform : formL a.ts = true := by
          simp only [rightA, rightL, Bool.and_eq_true] at h3
          exact h3.2.1.1
        obtain ⟨c', m', c2', V', F', f1, f2, f3, f4⟩ := atom_simL fuel ones (findRk ranks a.n (a.ts.length : Int)) sign a.ts 0 _ m _ V F (nvl_form _ hform) (by omega) (by omega) (by have := (findRk_len h1).1; omega) (invF_const (τ := wr (sign * (findRk ranks a.n (a.ts.length : Int)).1.f1_Const)) h)
        exact ⟨true, c', m', c2', V', F', f1, f2, f3, by omega⟩

/-! ### the removed heads -/
theorem remove_sim (fuel : Nat) (hf : 1048577 ≤ fuel) (ranks : List S_api_Rank) (ones : List Int) (N : Nat) (Q : Bool → Prop) (hQ : Q false) (kP : Int → List (Int × Int) → Option Bool) (kR : Int → List Int → List Int → Option Bool)
    (hk : ∀ (c : Int) (m : List (Int × Int)) (c2 : Int) (V F : List Int), m.length ≤ N → InvF ones c m c2 V F → ∃ b, Q b ∧ kP c m = some b ∧ kR c2 V F = some b) :
    ∀ (l : List At) (c : Int) (m : List (Int × Int)) (c2 : Int) (V F : List Int), (∀ a ∈ l, Bf a) → m.length + 1048576 * l.length ≤ N → N ≤ 100000000 → InvF ones c m c2 V F →
    ∃ b, Q b ∧ lf_rank_Decreases_L0 kP fuel ranks l c m = some b ∧ lf_constraintref41_Decreases_L4 kR fuel ones ranks l c2 V F = some b
  | [], c, m, c2, V, F, _, hN, _, h => by
    rw [lf_rank_Decreases_L0, lf_constraintref41_Decreases_L4]
    exact hk c m c2 V F (by simpa using hN) h
  | a :: l, c, m, c2, V, F, hb, hN, hM, h => by
    simp only [List.length_cons] at hN
    obtain ⟨b, c', m', c2', V', F', e1, e2, e3, e4⟩ := atom_sim fuel hf ranks ones a (hb a (List.mem_cons_self ..)) 1 c m c2 V F (by omega) h
    rw [lf_rank_Decreases_L0, lf_constraintref41_Decreases_L4, e1, e2]
    simp only [Option.bind_some]
    cases b with
    | false => exact ⟨false, hQ, rfl, rfl⟩
    | true => exact remove_sim fuel hf ranks ones N Q hQ kP kR hk l c' m' c2' V' F' (fun x hx => hb x (List.mem_cons_of_mem _ hx)) (by omega) hM e3

/-! ### the body -/
def okV (head ones vs : List Int) : Bool := vs.all fun v => decide (v ∈ head) || decide (v ∈ ones)
theorem vars_L3 (k : Option Bool) (r1 : List (Int × Bool) × List (Int × Bool)) (head ones : List Int) (hh : ∀ v, (mget r1.1 v).getD false = decide (v ∈ head)) (ho : ∀ v, (mget r1.2 v).getD false = decide (v ∈ ones)) : ∀ vs : List Int, lf_rank_Decreases_L3 k r1 vs = if okV head ones vs = true then k else some false
  | [] => by rw [lf_rank_Decreases_L3]; rfl
  | v :: vs => by
    rw [lf_rank_Decreases_L3, vars_L3 k r1 head ones hh ho vs, hh, ho, okV, okV, List.all_cons]
    cases decide (v ∈ head) <;> cases decide (v ∈ ones) <;> simp
theorem vars_L7 (k : Option Bool) (head ones : List Int) : ∀ vs : List Int, lf_constraintref41_Decreases_L7 k head ones vs = if okV head ones vs = true then k else some false
  | [] => by rw [lf_constraintref41_Decreases_L7]; rfl
  | v :: vs => by
    rw [lf_constraintref41_Decreases_L7, vars_L7 k head ones vs, in_lf, in_lf, okV, okV, List.all_cons]
    simp only [Option.bind_some]
    cases decide (v ∈ head) <;> cases decide (v ∈ ones) <;> simp
/-- A goal with few small arguments. -/
def Bg (g : Gl) : Prop := Bf ⟨g.n, g.ts⟩
theorem body_sim (fuel : Nat) (hf : 1048577 ≤ fuel) (ranks : List S_api_Rank) (rule : S_api_Rule) (hR : rule.f2_Remove ≠ []) (r1 : List (Int × Bool) × List (Int × Bool)) (head ones : List Int) (hh : ∀ v, (mget r1.1 v).getD false = decide (v ∈ head)) (ho : ∀ v, (mget r1.2 v).getD false = decide (v ∈ ones)) (N : Nat) (kP : Int → List (Int × Int) → Option Bool) (kR : Int → List Int → List Int → Option Bool)
    (hk : ∀ (c : Int) (m : List (Int × Int)) (c2 : Int) (V F : List Int), m.length ≤ N → InvF ones c m c2 V F → ∃ b, kP c m = some b ∧ kR c2 V F = some b) :
    ∀ (l : List Gl) (c : Int) (m : List (Int × Int)) (c2 : Int) (V F : List Int), (∀ g ∈ l, Bg g) → (∀ g ∈ l, g.op ≠ 3) → m.length + 1048576 * l.length ≤ N → N ≤ 100000000 → InvF ones c m c2 V F →
    ∃ b, lf_rank_Decreases_L1 kP fuel r1 rule ranks l c m = some b ∧ lf_constraintref41_Decreases_L5 kR fuel head ones ranks l c2 V F = some b
  | [], c, m, c2, V, F, _, _, hN, _, h => by
    rw [lf_rank_Decreases_L1, lf_constraintref41_Decreases_L5]
    exact hk c m c2 V F (by simpa using hN) h
  | g :: l, c, m, c2, V, F, hb, h3, hN, hM, h => by
    simp only [List.length_cons] at hN
    have hg := hb g (List.mem_cons_self ..)
    have hw : wtL g.ts ≤ 1048576 := Bf.wt hg
    have ih := fun c m c2 V F (x1 : m.length + 1048576 * l.length ≤ N) (x2 : InvF ones c m c2 V F) => body_sim fuel hf ranks rule hR r1 head ones hh ho N kP kR hk l c m c2 V F (fun x hx => hb x (List.mem_cons_of_mem _ hx)) (fun x hx => h3 x (List.mem_cons_of_mem _ hx)) x1 hM x2
    have e3 : (g.op == (3 : Int)) = false := by simpa using h3 g (List.mem_cons_self ..)
    have eR : ((rule.f2_Remove.length : Int) == 0) = false := by
      cases hrr : rule.f2_Remove with
      | nil => exact absurd hrr hR
      | cons a b => simp; omega
    rw [lf_rank_Decreases_L1, lf_constraintref41_Decreases_L5]
    by_cases h0 : g.op = 0
    · simp only [e3, eR, show (g.op == (0 : Int)) = true by simpa using h0, show (g.op != (0 : Int)) = false by simp [h0], cond_true, cond_false, x_varsA_eq (⟨g.n, g.ts⟩ : At) (show wtL g.ts ≤ 1000000000 by omega), Option.bind_some, vars_L3 _ r1 head ones hh ho, vars_L7]
      obtain ⟨b, c', m', c2', V', F', e1, e2, e3, e4⟩ := atom_sim fuel hf ranks ones ⟨g.n, g.ts⟩ hg (-1) c m c2 V F (by omega) h
      rw [e1, e2]
      simp only [Option.bind_some, atomVars_lf fuel (⟨g.n, g.ts⟩ : At) (show wtL g.ts < fuel by omega) (show wtL g.ts ≤ 1000000000 by omega)]
      cases b with
      | false =>
        refine ⟨false, ?_, rfl⟩
        split <;> rfl
      | true =>
        simp only [Bool.not_true, cond_false]
        by_cases hv : okV head ones (uniq [] (occL g.ts)) = true
        · rw [if_pos hv, if_pos hv]
          exact ih c' m' c2' V' F' (by omega) e3
        · rw [if_neg hv, if_neg hv]
          exact ⟨false, rfl, rfl⟩
    · simp only [e3, show (g.op == (0 : Int)) = false by simpa using h0, show (g.op != (0 : Int)) = true by simpa using h0, cond_true, cond_false]
      exact ih c m c2 V F (by omega) h

/-! ### the end -/
def badQ (ones : List Int) (q : Int × Int) : Bool := decide (q.2 < 0) && !decide (q.1 ∈ ones)
theorem final_loop (k : Int → Option Bool) (r1 : List (Int × Bool) × List (Int × Bool)) (ones : List Int) (ho : ∀ v, (mget r1.2 v).getD false = decide (v ∈ ones)) : ∀ (l : List (Int × Int)) (x : Int), wr x = x →
    mapLoop (fun q (v : Int) => lf_rank_Decreases_L2_B k r1 q v) (fun v => lf_rank_Decreases_L2_E k r1 v) l x = if l.any (badQ ones) = true then some false else k (wr (x + sumV l))
  | [], x, hx => by
    simp only [mapLoop, lf_rank_Decreases_L2_E, sumV, Int.add_zero, hx]
    rfl
  | q :: l, x, hx => by
    rw [mapLoop, lf_rank_Decreases_L2_B, ho, List.any_cons, badQ]
    have ih := final_loop k r1 ones ho l (wr (x + q.2)) (wr_wr _)
    have e : wr (wr (x + q.2) + sumV l) = wr (x + sumV (q :: l)) := by rw [wr_addL, sumV, Int.add_assoc]
    rw [e] at ih
    cases decide (q.2 < 0) with
    | true =>
      cases decide (q.1 ∈ ones) with
      | true => exact ih
      | false => simp [mapRes]
    | false => exact ih
theorem sumV_perm {l m : List (Int × Int)} (h : l.Perm m) : sumV l = sumV m := by
  induction h with
  | nil => rfl
  | cons x _ ih => simp only [sumV, ih]
  | swap x y l => simp only [sumV]; omega
  | trans _ _ i1 i2 => exact i1.trans i2
theorem any_perm {α : Type} {l m : List α} (p : α → Bool) (h : l.Perm m) : l.any p = m.any p := by
  rw [Bool.eq_iff_iff, List.any_eq_true, List.any_eq_true]
  constructor
  · rintro ⟨x, h1, h2⟩; exact ⟨x, h.mem_iff.1 h1, h2⟩
  · rintro ⟨x, h1, h2⟩; exact ⟨x, h.mem_iff.2 h1, h2⟩
theorem final_P (k : Int → Option Bool) (r1 : List (Int × Bool) × List (Int × Bool)) (ones : List Int) (ho : ∀ v, (mget r1.2 v).getD false = decide (v ∈ ones)) (m : List (Int × Int)) (c : Int) (hc : wr c = c) (b : Bool) (hb : (if m.any (badQ ones) = true then some false else k (wr (c + sumV m))) = some b) : lf_rank_Decreases_L2 k r1 m c = some b := by
  rw [lf_rank_Decreases_L2]
  refine permO_of fun l' hl => ?_
  rw [final_loop k r1 ones ho l' c hc, any_perm _ hl, sumV_perm hl]
  exact hb
theorem final_R (k : Int → Option Bool) : ∀ (F : List Int) (x : Int), wr x = x → lf_constraintref41_Decreases_L6 k F x = if (F.any fun n => decide (n < 0)) = true then some false else k (wr (x + F.foldr (· + ·) 0))
  | [], x, hx => by rw [lf_constraintref41_Decreases_L6]; simp [hx]
  | n :: F, x, hx => by
    rw [lf_constraintref41_Decreases_L6, final_R k F _ (wr_wr _), List.any_cons, wr_addL]
    cases decide (n < 0) with
    | true => simp
    | false => simp [Int.add_assoc]
theorem sum_map (m : List (Int × Int)) : (m.map (·.2)).foldr (· + ·) 0 = sumV m := by
  induction m with
  | nil => rfl
  | cons q m ih => simp only [List.map_cons, List.foldr_cons, sumV, ih]
theorem final_sim (rule : S_api_Rule) (hR : rule.f2_Remove ≠ []) (r1 : List (Int × Bool) × List (Int × Bool)) (ones : List Int) (ho : ∀ v, (mget r1.2 v).getD false = decide (v ∈ ones)) (c : Int) (m : List (Int × Int)) (c2 : Int) (V F : List Int) (h : InvF ones c m c2 V F) :
    ∃ b, lf_rank_Decreases_L2 (fun least_18 => bif decide (least_18 ≥ (1 : Int)) then some true else some ((rule.f2_Remove.length : Int) == (0 : Int))) r1 m c = some b ∧ lf_constraintref41_Decreases_L6 (fun n_61 => some (decide (n_61 ≥ (1 : Int)))) F c2 = some b := by
  obtain ⟨h1, h2, h3, h4⟩ := h
  have eR : ((rule.f2_Remove.length : Int) == 0) = false := by
    cases hrr : rule.f2_Remove with
    | nil => exact absurd hrr hR
    | cons a b => simp; omega
  refine ⟨if m.any (badQ ones) = true then false else decide (wr (c + sumV m) ≥ 1), final_P _ r1 ones ho m c h1 _ ?_, ?_⟩
  · rw [eR]
    split
    · rfl
    · cases decide (wr (c + sumV m) ≥ 1) <;> rfl
  · rw [final_R _ F c2 (by rw [h4, wr_wr]), h3, sum_map, h4, wr_addL]
    have e1 : ((m.filter fun q => !decide (q.1 ∈ ones)).map (·.2)).any (fun n => decide (n < 0)) = m.any (badQ ones) := by
      rw [List.any_map, List.any_filter]
      congr 1
      funext q
      simp only [badQ, Function.comp, Bool.and_comm]
    have e2 := sum_split (fun v => decide (v ∈ ones)) m
    rw [e1, Int.add_assoc, ← e2]
    split <;> rfl

/-! ### a goal that unifies; no removed heads -/
theorem body_unify (fuel : Nat) (hf : 1048577 ≤ fuel) (ranks : List S_api_Rank) (rule : S_api_Rule) (r1 : List (Int × Bool) × List (Int × Bool)) (head ones : List Int) (hh : ∀ v, (mget r1.1 v).getD false = decide (v ∈ head)) (ho : ∀ v, (mget r1.2 v).getD false = decide (v ∈ ones)) (kP : Int → List (Int × Int) → Option Bool) :
    ∀ (l : List Gl) (c : Int) (m : List (Int × Int)), (∀ g ∈ l, Bg g) → (∃ g ∈ l, g.op = 3) → m.length + 1048576 * l.length ≤ 100000000 → wr c = c → lf_rank_Decreases_L1 kP fuel r1 rule ranks l c m = some false
  | [], _, _, _, ⟨_, h, _⟩, _, _ => by cases h
  | g :: l, c, m, hb, h3, hN, hc => by
    simp only [List.length_cons] at hN
    have hg := hb g (List.mem_cons_self ..)
    have hw : wtL g.ts ≤ 1048576 := Bf.wt hg
    rw [lf_rank_Decreases_L1]
    by_cases e3 : g.op = 3
    · rw [show (g.op == (3 : Int)) = true by simpa using e3]; rfl
    · have h3' : ∃ g ∈ l, g.op = 3 := by
        obtain ⟨x, hx, hx3⟩ := h3
        rcases List.mem_cons.1 hx with rfl | hx
        · exact absurd hx3 e3
        · exact ⟨x, hx, hx3⟩
      have ih := fun c m (x1 : m.length + 1048576 * l.length ≤ 100000000) (x2 : wr c = c) => body_unify fuel hf ranks rule r1 head ones hh ho kP l c m (fun x hx => hb x (List.mem_cons_of_mem _ hx)) h3' x1 x2
      by_cases h0 : g.op = 0
      · simp only [show (g.op == (3 : Int)) = false by simpa using e3, show (g.op == (0 : Int)) = true by simpa using h0, show (g.op != (0 : Int)) = false by simp [h0], cond_true, cond_false, x_varsA_eq (⟨g.n, g.ts⟩ : At) (show wtL g.ts ≤ 1000000000 by omega), Option.bind_some, vars_L3 _ r1 head ones hh ho]
        cases ((rule.f2_Remove.length : Int) == 0) with
        | true => rfl
        | false =>
          simp only [cond_false]
          obtain ⟨b, c', m', c2', V', F', e1, _, e3, e4⟩ := atom_sim fuel hf ranks [] ⟨g.n, g.ts⟩ hg (-1) c m (wr (c + sumV (m.filter fun q => decide (q.1 ∈ ([] : List Int))))) _ _ (by omega) ⟨hc, rfl, rfl, rfl⟩
          rw [e1]
          split
          · cases b with
            | false => rfl
            | true => exact ih c' m' (by omega) e3.1
          · rfl
      · simp only [show (g.op == (3 : Int)) = false by simpa using e3, show (g.op == (0 : Int)) = false by simpa using h0, show (g.op != (0 : Int)) = true by simpa using h0, cond_true, cond_false]
        exact ih c m (by omega) hc
theorem body_none (fuel : Nat) (ranks : List S_api_Rank) (rule : S_api_Rule) (hR : rule.f2_Remove = []) (r1 : List (Int × Bool) × List (Int × Bool)) (kP : Int → List (Int × Int) → Option Bool) (c : Int) (m : List (Int × Int)) :
    ∀ l : List Gl, lf_rank_Decreases_L1 kP fuel r1 rule ranks l c m = if (l.any fun g => decide (g.op = 3) || decide (g.op = 0)) = true then some false else kP c m
  | [] => by rw [lf_rank_Decreases_L1]; rfl
  | g :: l => by
    rw [lf_rank_Decreases_L1, body_none fuel ranks rule hR r1 kP c m l, hR, List.any_cons]
    by_cases e3 : g.op = 3
    · simp [e3]
    · by_cases h0 : g.op = 0
      · simp [h0]
      · simp [e3, h0]
theorem count_L0 (k : Int → Option Bool) : ∀ (l : List Gl) (n : Nat), n + l.length ≤ 1000 → lf_constraintref41_Decreases_L0 k l (n : Int) = if (l.any fun g => decide (g.op = 3)) = true then some false else k ((n + (l.filter fun g => decide (g.op = 0)).length : Nat) : Int)
  | [], n, _ => by rw [lf_constraintref41_Decreases_L0]; simp
  | g :: l, n, h => by
    simp only [List.length_cons] at h
    rw [lf_constraintref41_Decreases_L0, List.any_cons]
    have hn : wr ((n : Int) + 1) = ((n + 1 : Nat) : Int) := by rw [wr_eq (by omega)]; simp
    by_cases e3 : g.op = 3
    · simp [e3]
    · by_cases h0 : g.op = 0
      · simp only [show (g.op == (3 : Int)) = false by simpa using e3, show (g.op == (0 : Int)) = true by simpa using h0, cond_true, cond_false, hn, count_L0 k l (n + 1) (by omega), decide_eq_false e3, Bool.false_or]
        rw [List.filter_cons_of_pos (by simpa using h0), List.length_cons, show n + 1 + (l.filter fun g => decide (g.op = 0)).length = n + ((l.filter fun g => decide (g.op = 0)).length + 1) by omega]
      · simp only [show (g.op == (3 : Int)) = false by simpa using e3, show (g.op == (0 : Int)) = false by simpa using h0, cond_false, count_L0 k l n (by omega), decide_eq_false e3, Bool.false_or]
        rw [List.filter_cons_of_neg (by simpa using h0)]

/-! ### the variables of the heads, and those that are computed -/
def varsB (a : At) : List Int := uniq [] (occL a.ts)
theorem varsB_len {a : At} (h : Bf a) : (varsB a).length ≤ 1048576 := by
  have h1 := uniq_len (occL a.ts) []
  have h2 := occL_wt a.ts
  have h3 := h.wt
  simp only [List.length_nil, Nat.zero_add] at h1
  unfold varsB
  omega
theorem mput_lenB : ∀ (l : List (Int × Bool)) (x : Int) (d : Bool), (mput l x d).length ≤ l.length + 1 := mput_len
theorem mputO_true {m : List (Int × Bool)} {v : Int} (h : m.length ≤ 1000000000) : mputO m v true = some (mput m v true) := if_pos (by omega)
theorem getD_put (m : List (Int × Bool)) (x v : Int) : (mget (mput m x true) v).getD false = ((mget m v).getD false || decide (v = x)) := by
  rw [mget_mput]
  by_cases h : x = v
  · subst h; simp
  · have h' : ¬ v = x := fun e => h e.symm
    simp [h, h']
theorem heads_L2 (k : List (Int × Bool) → Option (List (Int × Bool) × List (Int × Bool))) : ∀ (vs : List Int) (mm : List (Int × Bool)), mm.length + vs.length ≤ 100000000 → ∃ mm', lf_rank_variables_L2 k vs mm = k mm' ∧ mm'.length ≤ mm.length + vs.length ∧ ∀ v, (mget mm' v).getD false = ((mget mm v).getD false || decide (v ∈ vs))
  | [], mm, _ => ⟨mm, by rw [lf_rank_variables_L2], by simp, by simp⟩
  | x :: vs, mm, h => by
    simp only [List.length_cons] at h
    have hl := mput_lenB mm x true
    obtain ⟨mm', e1, e2, e3⟩ := heads_L2 k vs (mput mm x true) (by omega)
    refine ⟨mm', by rw [lf_rank_variables_L2, mputO_true (by omega)]; exact e1, by simp only [List.length_cons]; omega, fun v => ?_⟩
    rw [e3, getD_put, Bool.or_assoc]
    congr 1
    rw [Bool.eq_iff_iff]
    simp
theorem heads_L0 (k : List (Int × Bool) → Option (List (Int × Bool) × List (Int × Bool))) : ∀ (l : List At) (mm : List (Int × Bool)), (∀ a ∈ l, Bf a) → mm.length + 1048576 * l.length ≤ 100000000 → ∃ mm', lf_rank_variables_L0 k l mm = k mm' ∧ mm'.length ≤ mm.length + 1048576 * l.length ∧ ∀ v, (mget mm' v).getD false = ((mget mm v).getD false || decide (v ∈ l.flatMap varsB))
  | [], mm, _, _ => ⟨mm, by rw [lf_rank_variables_L0], by simp, by simp⟩
  | a :: l, mm, hb, h => by
    simp only [List.length_cons] at h
    have ha := hb a (List.mem_cons_self ..)
    have hw := ha.wt
    have hv := varsB_len ha
    obtain ⟨m1, e1, e2, e3⟩ := heads_L2 (fun mm_23 => lf_rank_variables_L0 k l mm_23) (varsB a) mm (by omega)
    obtain ⟨m2, f1, f2, f3⟩ := heads_L0 k l m1 (fun x hx => hb x (List.mem_cons_of_mem _ hx)) (by omega)
    refine ⟨m2, ?_, by simp only [List.length_cons]; omega, fun v => ?_⟩
    · rw [lf_rank_variables_L0, x_varsA_eq a (by omega)]
      simp only [Option.bind_some]
      exact e1.trans f1
    · rw [f3, e3, Bool.or_assoc]
      congr 1
      rw [Bool.eq_iff_iff]
      simp
def compG (head : List Int) (g : Gl) : List Int := if g.op = 4 then match g.ts with
  | t :: _ => if t.k = 1 ∧ t.i ∉ head then [t.i] else []
  | [] => [] else []
def compL (head : List Int) (l : List Gl) : List Int := l.flatMap (compG head)
theorem comp_L1 (k : List (Int × Bool) → Option (List (Int × Bool) × List (Int × Bool))) (hm : List (Int × Bool)) (head : List Int) (hh : ∀ v, (mget hm v).getD false = decide (v ∈ head)) : ∀ (l : List Gl) (mm : List (Int × Bool)), mm.length + l.length ≤ 100000000 → ∃ mm', lf_rank_variables_L1 k hm l mm = k mm' ∧ mm'.length ≤ mm.length + l.length ∧ ∀ v, (mget mm' v).getD false = ((mget mm v).getD false || decide (v ∈ compL head l))
  | [], mm, _ => ⟨mm, by rw [lf_rank_variables_L1], by simp, by simp [compL]⟩
  | g :: l, mm, h => by
    simp only [List.length_cons] at h
    have same : (compG head g = []) → (lf_rank_variables_L1 k hm (g :: l) mm = lf_rank_variables_L1 k hm l mm) → ∃ mm', lf_rank_variables_L1 k hm (g :: l) mm = k mm' ∧ mm'.length ≤ mm.length + (g :: l).length ∧ ∀ v, (mget mm' v).getD false = ((mget mm v).getD false || decide (v ∈ compL head (g :: l))) := fun h1 h2 => by
      obtain ⟨mm', e1, e2, e3⟩ := comp_L1 k hm head hh l mm (by omega)
      refine ⟨mm', h2.trans e1, by simp only [List.length_cons]; omega, fun v => ?_⟩
      rw [e3, compL, compL, List.flatMap_cons, h1, List.nil_append]
    by_cases h4 : g.op = 4
    · cases hts : g.ts with
      | nil =>
        refine same (by simp [compG, hts]) ?_
        rw [lf_rank_variables_L1]
        simp [h4, hts]
      | cons t ts =>
        have hgt : getI g.ts 0 = some t := by rw [hts]; rfl
        have hpos : decide ((g.ts.length : Int) > 0) = true := by rw [hts]; simp
        by_cases hk : t.k = 1
        · by_cases hi : t.i ∈ head
          · refine same (by simp [compG, hts, hi]) ?_
            rw [lf_rank_variables_L1]
            simp [h4, hpos, hgt, hk, hh, hi]
          · have hl := mput_lenB mm t.i true
            obtain ⟨mm', e1, e2, e3⟩ := comp_L1 k hm head hh l (mput mm t.i true) (by omega)
            have hc : compG head g = [t.i] := by simp [compG, h4, hts, hk, hi]
            refine ⟨mm', ?_, by simp only [List.length_cons]; omega, fun v => ?_⟩
            · rw [lf_rank_variables_L1]
              simp only [show (g.op == (4 : Int)) = true by simpa using h4, hpos, hgt, show (t.k == (1 : Int)) = true by simpa using hk, hh, hi, decide_false, Bool.not_false, cond_true, Option.bind_some, mputO_true (show mm.length ≤ 1000000000 by omega)]
              exact e1
            · rw [e3, getD_put, compL, compL, List.flatMap_cons, hc, Bool.or_assoc]
              congr 1
              rw [Bool.eq_iff_iff]
              simp
        · refine same (by simp [compG, hts, hk]) ?_
          rw [lf_rank_variables_L1]
          simp [h4, hpos, hgt, beq_false_of_ne hk]
    · refine same (by simp [compG, h4]) ?_
      rw [lf_rank_variables_L1]
      simp [beq_false_of_ne h4]
theorem ref_L1 (fuel : Nat) (hf : 1048577 ≤ fuel) (k : List Int → Option Bool) : ∀ (l : List At) (head : List Int), (∀ a ∈ l, Bf a) → head.length + 1048576 * l.length ≤ 100000000 → lf_constraintref41_Decreases_L1 k fuel l head = k (head ++ l.flatMap varsB)
  | [], head, _, _ => by rw [lf_constraintref41_Decreases_L1]; simp
  | a :: l, head, hb, h => by
    simp only [List.length_cons] at h
    have ha := hb a (List.mem_cons_self ..)
    have hw := ha.wt
    have hv := varsB_len ha
    rw [lf_constraintref41_Decreases_L1, atomVars_lf fuel a (by omega) (by omega)]
    simp only [Option.bind_some]
    rw [show uniq [] (occL a.ts) = varsB a from rfl, appO_eq (by omega) (by omega)]
    simp only [Option.bind_some]
    rw [ref_L1 fuel hf k l _ (fun x hx => hb x (List.mem_cons_of_mem _ hx)) (by rw [List.length_append]; omega)]
    simp
theorem ref_L2 (fuel : Nat) (hf : 1048577 ≤ fuel) (k : List Int → Option Bool) : ∀ (l : List At) (head : List Int), (∀ a ∈ l, Bf a) → head.length + 1048576 * l.length ≤ 100000000 → lf_constraintref41_Decreases_L2 k fuel l head = k (head ++ l.flatMap varsB)
  | [], head, _, _ => by rw [lf_constraintref41_Decreases_L2]; simp
  | a :: l, head, hb, h => by
    simp only [List.length_cons] at h
    have ha := hb a (List.mem_cons_self ..)
    have hw := ha.wt
    have hv := varsB_len ha
    rw [lf_constraintref41_Decreases_L2, atomVars_lf fuel a (by omega) (by omega)]
    simp only [Option.bind_some]
    rw [show uniq [] (occL a.ts) = varsB a from rfl, appO_eq (by omega) (by omega)]
    simp only [Option.bind_some]
    rw [ref_L2 fuel hf k l _ (fun x hx => hb x (List.mem_cons_of_mem _ hx)) (by rw [List.length_append]; omega)]
    simp
theorem ref_L3 (k : List Int → Option Bool) (head : List Int) : ∀ (l : List Gl) (ones : List Int), ones.length + l.length ≤ 100000000 → lf_constraintref41_Decreases_L3 k head l ones = k (ones ++ compL head l)
  | [], ones, _ => by rw [lf_constraintref41_Decreases_L3]; simp [compL]
  | g :: l, ones, h => by
    simp only [List.length_cons] at h
    have ih := ref_L3 k head l ones (by omega)
    rw [lf_constraintref41_Decreases_L3, compL, List.flatMap_cons]
    have ih' : ones ++ List.flatMap (compG head) l = ones ++ compL head l := rfl
    by_cases h4 : g.op = 4
    · cases hts : g.ts with
      | nil => simp [h4, hts, ih, compG, compL]
      | cons t ts =>
        have hgt : getI (t :: ts) 0 = some t := rfl
        have hpos : decide (((t :: ts).length : Int) > 0) = true := by simp
        by_cases hk : t.k = 1
        · by_cases hi : t.i ∈ head
          · simp [h4, hts, hgt, hk, in_lf, hi, ih, compG, compL]
          · have ih2 := ref_L3 k head l (ones ++ [t.i]) (by simp; omega)
            have ha : appO 8 ones [t.i] = some (ones ++ [t.i]) := appO_eq (by simp; omega) (by simp; omega)
            simp only [show (g.op == (4 : Int)) = true by simpa using h4, hpos, hgt, show (t.k == (1 : Int)) = true by simpa using hk, in_lf, hi, decide_false, Bool.not_false, cond_true, Option.bind_some, ha, ih2]
            simp [compG, h4, hts, hk, hi, compL]
        · simp [h4, hts, hgt, hk, beq_false_of_ne hk, ih, compG, compL]
    · simp [h4, beq_false_of_ne h4, ih, compG, compL]

/-! ### the two together -/
structure Br (r : S_api_Rule) : Prop where
  lk : r.f1_Keep.length ≤ 20
  lr : r.f2_Remove.length ≤ 20
  lb : r.f4_Body.length ≤ 20
  bk : ∀ a ∈ r.f1_Keep, Bf a
  br : ∀ a ∈ r.f2_Remove, Bf a
  bb : ∀ g ∈ r.f4_Body, Bg g
def headB (r : S_api_Rule) : List Int := r.f1_Keep.flatMap varsB ++ r.f2_Remove.flatMap varsB
theorem variables_lf (r : S_api_Rule) (h : Br r) : ∃ r1, lf_rank_variables r = some r1 ∧ (∀ v, (mget r1.1 v).getD false = decide (v ∈ headB r)) ∧ ∀ v, (mget r1.2 v).getD false = decide (v ∈ compL (headB r) r.f4_Body) := by
  obtain ⟨hk, hr, hb, bk, br, bb⟩ := h
  have hH : lf_occur_Heads r = some (r.f1_Keep ++ r.f2_Remove) := by
    rw [lf_occur_Heads, lf_occur_count]
    simp only [Option.bind_some]
    have hw : wr ((r.f1_Keep.length : Int) + (r.f2_Remove.length : Int)) = ((r.f1_Keep.length + r.f2_Remove.length : Nat) : Int) := by rw [wr_eq (by omega)]; simp
    rw [hw, makeO, if_pos (by omega)]
    simp only [Option.bind_some]
    rw [appO_eq (by simp; omega) (by simp; omega)]
    simp only [Option.bind_some, List.nil_append]
    rw [appO_eq (by omega) (by omega)]
    rfl
  rw [lf_rank_variables, hH]
  simp only [Option.bind_some]
  obtain ⟨hm, e1, e2, e3⟩ := heads_L0 (fun mm_6 => lf_rank_variables_L1 (fun mm_9 => some (mm_6, mm_9)) mm_6 r.f4_Body []) (r.f1_Keep ++ r.f2_Remove) [] (fun a ha => (List.mem_append.1 ha).elim (bk a) (br a)) (by simp; omega)
  have hh : ∀ v, (mget hm v).getD false = decide (v ∈ headB r) := fun v => by rw [e3]; simp [mget, headB]
  obtain ⟨cm, f1, f2, f3⟩ := comp_L1 (fun mm_9 => some (hm, mm_9)) hm (headB r) hh r.f4_Body [] (by simp; omega)
  exact ⟨(hm, cm), e1.trans f1, hh, fun v => by rw [f3]; simp [mget]⟩
theorem dec_same (fuel : Nat) (hf : 1048577 ≤ fuel) (ranks : List S_api_Rank) (r : S_api_Rule) (h : Br r) : ∃ b, lf_rank_Decreases fuel ranks r = some b ∧ lf_constraintref41_Decreases fuel ranks r = some b := by
  obtain ⟨r1, hv, hh, ho⟩ := variables_lf r h
  obtain ⟨hk, hr, hb, bk, br, bb⟩ := h
  rw [lf_rank_Decreases, hv, lf_constraintref41_Decreases]
  simp only [Option.bind_some]
  have hcnt := count_L0 (fun calls_3 => (bif ((r.f2_Remove.length : Int) == (0 : Int)) then some ((calls_3 == (0 : Int))) else
    (lf_constraintref41_Decreases_L1 (fun head_12 => (lf_constraintref41_Decreases_L2 (fun head_19 => (lf_constraintref41_Decreases_L3 (fun ones_27 => (lf_constraintref41_Decreases_L4 (fun t128_41 t128_42 t128_43 => (lf_constraintref41_Decreases_L5 (fun f_54 f_55 f_56 => (lf_constraintref41_Decreases_L6 (fun n_61 => some ((decide (n_61 ≥ (1 : Int))))) f_56 f_54)) fuel head_19 ones_27 ranks r.f4_Body t128_41 t128_42 t128_43)) fuel ones_27 ranks r.f2_Remove 0 [] [])) head_19 r.f4_Body [])) fuel r.f2_Remove head_12)) fuel r.f1_Keep []))) r.f4_Body 0 (by omega)
  rw [show ((0 : Nat) : Int) = 0 from rfl] at hcnt
  rw [hcnt]
  clear hcnt
  have hinv0 : InvF (compL (headB r) r.f4_Body) 0 [] 0 [] [] := ⟨by decide, rfl, rfl, rfl⟩
  by_cases h3 : ∃ g ∈ r.f4_Body, g.op = 3
  · have e3 : (r.f4_Body.any fun g => decide (g.op = 3)) = true := by
      rw [List.any_eq_true]
      obtain ⟨g, g1, g2⟩ := h3
      exact ⟨g, g1, decide_eq_true g2⟩
    rw [if_pos e3]
    refine ⟨false, ?_, rfl⟩
    obtain ⟨b, rfl, e1, _⟩ := remove_sim fuel hf ranks (compL (headB r) r.f4_Body) 45000000 (fun b => b = false) rfl (fun c m => lf_rank_Decreases_L1 (fun change_14 mm_15 => (lf_rank_Decreases_L2 (fun least_18 => (bif (decide (least_18 ≥ (1 : Int))) then some (true) else some (((r.f2_Remove.length : Int) == (0 : Int))))) r1 mm_15 change_14)) fuel r1 r ranks r.f4_Body c m) (fun _ _ _ => some false) (fun c m c2 V F hm hi => ⟨false, rfl, body_unify fuel hf ranks r r1 _ _ hh ho _ r.f4_Body c m bb h3 (by omega) hi.1, rfl⟩) r.f2_Remove 0 [] 0 [] [] br (by simp; omega) (by omega) hinv0
    exact e1
  · have e3 : (r.f4_Body.any fun g => decide (g.op = 3)) = false := by
      rw [Bool.eq_false_iff, Ne, List.any_eq_true]
      rintro ⟨g, g1, g2⟩
      exact h3 ⟨g, g1, of_decide_eq_true g2⟩
    rw [if_neg (by rw [e3]; simp)]
    have h3' : ∀ g ∈ r.f4_Body, g.op ≠ 3 := fun g hg e => h3 ⟨g, hg, e⟩
    by_cases hR : r.f2_Remove = []
    · rw [hR, lf_rank_Decreases_L0, body_none fuel ranks r hR]
      have e0 : (r.f4_Body.any fun g => decide (g.op = 3) || decide (g.op = 0)) = !decide ((r.f4_Body.filter fun g => decide (g.op = 0)).length = 0) := by
        rw [Bool.eq_iff_iff]
        simp only [List.any_eq_true, Bool.or_eq_true, decide_eq_true_eq, Bool.not_eq_true', decide_eq_false_iff_not, List.length_eq_zero_iff, List.filter_eq_nil_iff]
        constructor
        · rintro ⟨g, g1, g2⟩ hall
          exact hall g g1 (g2.resolve_left (h3' g g1))
        · intro hn
          apply Classical.byContradiction
          intro hc
          exact hn fun g hg e => hc ⟨g, hg, .inr e⟩
      refine ⟨decide ((r.f4_Body.filter fun g => decide (g.op = 0)).length = 0), ?_, ?_⟩
      · rw [e0]
        by_cases hz : (r.f4_Body.filter fun g => decide (g.op = 0)).length = 0
        · rw [decide_eq_true hz]
          exact final_P _ r1 _ ho [] 0 (by decide) true (by simp [sumV])
        · rw [decide_eq_false hz]; rfl
      · simp only [List.length_nil, Nat.zero_add]
        show some _ = some _
        congr 1
        rw [Bool.eq_iff_iff]
        simp
    · have eR : ((r.f2_Remove.length : Int) == 0) = false := by
        cases hrr : r.f2_Remove with
        | nil => exact absurd hrr hR
        | cons a b => simp; omega
      rw [eR]
      simp only [cond_false]
      rw [ref_L1 fuel hf _ r.f1_Keep [] bk (by simp; omega)]
      rw [ref_L2 fuel hf _ r.f2_Remove _ br (by
        have : ∀ l : List At, (∀ a ∈ l, Bf a) → (l.flatMap varsB).length ≤ 1048576 * l.length := by
          intro l
          induction l with
          | nil => intro _; simp
          | cons a l ih =>
            intro hb
            have h1 := varsB_len (hb a (List.mem_cons_self ..))
            have h2 := ih fun x hx => hb x (List.mem_cons_of_mem _ hx)
            simp only [List.flatMap_cons, List.length_append, List.length_cons]
            omega
        have := this r.f1_Keep bk
        simp only [List.nil_append]
        omega)]
      rw [ref_L3 _ _ r.f4_Body [] (by simp; omega)]
      simp only [List.nil_append]
      obtain ⟨b, _, e1, e2⟩ := remove_sim fuel hf ranks (compL (headB r) r.f4_Body) 45000000 (fun _ => True) trivial _ _ (fun c m c2 V F hm hi => by
        obtain ⟨b, x1, x2⟩ := body_sim fuel hf ranks r hR r1 (headB r) (compL (headB r) r.f4_Body) hh ho 90000000 _ _ (fun c m c2 V F _ hi => final_sim r hR r1 _ ho c m c2 V F hi) r.f4_Body c m c2 V F bb h3' (by omega) (by omega) hi
        exact ⟨b, trivial, x1, x2⟩) r.f2_Remove 0 [] 0 [] [] br (by simp; omega) (by omega) hinv0
      rw [eR] at e1
      exact ⟨b, e1, e2⟩
end Go.Proofs.Ythcgefbigimgoaa


namespace Go.Proofs.Ythcgefbigimgoaa
set_option maxRecDepth 100000
open Go.RowKit

theorem check_L1 (fuel : Nat) (hf : 1048577 ≤ fuel) (ranks : List S_api_Rank) : ∀ l : List S_api_Rule, (∀ r ∈ l, Br r) → ∃ e, lf_rank_Check_L1 (some 0) fuel ranks l = some e ∧ lf_constraintref41_Check_L1 (some 0) fuel ranks l = some e
  | [], _ => ⟨0, by rw [lf_rank_Check_L1], by rw [lf_constraintref41_Check_L1]⟩
  | r :: l, h => by
    obtain ⟨b, d1, d2⟩ := dec_same fuel hf ranks r (h r (List.mem_cons_self ..))
    obtain ⟨e, f1, f2⟩ := check_L1 fuel hf ranks l fun x hx => h x (List.mem_cons_of_mem _ hx)
    rw [lf_rank_Check_L1, lf_constraintref41_Check_L1, d1, d2]
    simp only [Option.bind_some]
    cases b with
    | false => exact ⟨19, rfl, rfl⟩
    | true => exact ⟨e, f1, f2⟩
theorem check_L0 (ranks : List S_api_Rank) (k k' : Option Int) (e : Int) (h1 : k = some e) (h2 : k' = some e) : ∀ l : List S_api_Decl, ∃ e, lf_rank_Check_L0 k ranks l = some e ∧ lf_constraintref41_Check_L0 k' ranks l = some e
  | [] => ⟨e, by rw [lf_rank_Check_L0, h1], by rw [lf_constraintref41_Check_L0, h2]⟩
  | d :: l => by
    rw [lf_rank_Check_L0, lf_constraintref41_Check_L0, find_lf, refFind_lf]
    simp only [Option.bind_some]
    cases (findRk ranks d.f0_Name d.f1_Arity).2 with
    | false => exact ⟨13, rfl, rfl⟩
    | true => exact check_L0 ranks k k' e h1 h2 l
theorem check_same (fuel : Nat) (hf : 1048577 ≤ fuel) (p : S_api_Program) (ranks : List S_api_Rank) (h : ∀ r ∈ p.f1_Rules, Br r) : ∃ e, lf_rank_Check fuel p ranks = some e ∧ lf_constraintref41_Check fuel p ranks = some e := by
  rw [lf_rank_Check, lf_constraintref41_Check, valid_lf, refValid_lf]
  simp only [Option.bind_some]
  cases ranks.all rightRk with
  | false => exact ⟨2, rfl, rfl⟩
  | true =>
    obtain ⟨e, f1, f2⟩ := check_L1 fuel hf ranks p.f1_Rules h
    exact check_L0 ranks _ _ e f1 f2 p.f0_Decls
end Go.Proofs.Ythcgefbigimgoaa


namespace Go.Proofs.Ythcgefbigimgoaa
set_option maxRecDepth 100000
open Go.RowKit

theorem wr_range (n : Int) : -9223372036854775808 ≤ wr n ∧ wr n < 9223372036854775808 := by
  unfold wr
  simp only [IntKind.wrap, IntKind.bits, IntKind.signed]
  simp
  omega
/-- Weakened field by field. -/
inductive Wks : List D → List D → Prop
  | nil : Wks [] []
  | cons {d e : D} {ds es : List D} (h : Wk d e) (k : Wks ds es) : Wks (d :: ds) (e :: es)
theorem Wks.reps {ds es : List D} (h : Wks ds es) : ∀ {p : Addr → Prop} {w : World} {xs : List Value}, Reps p w ds xs → Reps p w es xs := by
  induction h with
  | nil => exact fun h => h
  | cons h _ ih =>
    intro p w xs hr
    simp only [Reps] at hr ⊢
    obtain ⟨v, rest, h1, h2, h3⟩ := hr
    exact ⟨v, rest, h1, h _ _ _ h2, ih h3⟩
theorem Wk.agg {ds es : List D} (h : Wks ds es) : Wk (.agg ds) (.agg es) := fun p w v hv => by
  simp only [Rep] at hv ⊢
  obtain ⟨cs, h1, h2, h3⟩ := hv
  exact ⟨cs, h1, h.reps h2, h3⟩
theorem m_indexArr0 {P : Program} {o : Oper} {ρ : Operand → Option D} {α : Type} {t e : TypeId} {x ix : Operand} {s by_ b n : Nat} {k : IntKind} {m : Int} {q : α} (l : List α) (ho : o.op = .indexAddr t x ix) (hE : ElT P t e s by_) (hx : ρ x = some (.arr b s 0 n)) (hix : ρ ix = some (.int k m)) (hq : getI l m = some q) (hn : l.length = n) : StepD P o ρ (.mref b m.toNat s 0 []) := by
  have := m_indexArr l ho hE hx hix hq hn
  rwa [Nat.zero_add] at this
section
variable {P : Program} {f : FuncId} {fn : Func} {K : Ctx} {R : D → St → Prop} {k : List Item} {env : Env} {σ : St}
end
end Go.Proofs.Ythcgefbigimgoaa

