/-
  Texts of the seat, merged.
-/
import Derived.Test.YthcgefbigimgoaaLAA
import Derived.Test.YthcgefbigimgoaaLAB
import Derived.Test.YthcgefbigimgoaaLAC
import Derived.Test.YthcgefbigimgoaaLAD
import Derived.Test.YthcgefbigimgoaaLAE
import Derived.Test.YthcgefbigimgoaaLAF
import Derived.Test.YthcgefbigimgoaaLAG
import Derived.Test.YthcgefbigimgoaaLAH
import Derived.Test.YthcgefbigimgoaaChecked
import Derived.WalkKit
import Derived.Lib.Hide
import Derived.Lib.AppendStr
import Derived.Deep.AppendLies
import Derived.Deep.AppendSrc
import Derived.Deep.Draws
import Derived.Deep.QuietTactic
import Derived.BigQuiet
import Derived.Deep.RegionWith
import Derived.Maps.AppendAt
import Derived.WalkSpells
import Derived.Orders
import Derived.Deep.Slices
import Derived.Deep.Fields
import Derived.ChangeArms
import Derived.Lib.OthersKept
import Derived.Lib.TrimU
import Derived.Lib.IndexAny
import Derived.Deep.LoopGhost
import Derived.Lib.Bytealg
import Derived.RangeFuncBox
import Derived.RangeFuncNested
import Derived.RangeFuncBound
import Derived.RangeFuncCalls
import Derived.RangeFuncLeaves
import Derived.Shelf.Abstract
import Derived.OwnWalkIn
import Derived.TacticsInMore
import Derived.LoopNIn
import Derived.LoopIn
import Derived.RangeFuncWrites
import Derived.Maps.OwnIn
import Derived.Maps.Views
import Derived.Laws.OwnMore
import Derived.Maps.OwnSet
import Derived.Test.YthcgefbigimgoaaRows
import Derived.ProofKit
import Derived.OpenShut
import Derived.Carry
import Derived.Great.BuildSlice
import Derived.ArgAppend
import Derived.Laws.MakeOwn
import Derived.Laws.Cover3
import Derived.Laws.CopyRow
import Derived.MapKept
import Derived.Maps.RangeRun
import Derived.ChangeSlices
set_option linter.unusedVariables false
set_option linter.unusedSimpArgs false
set_option linter.unnecessarySimpa false
set_option linter.all false

namespace Go.Proofs.Ythcgefbigimgoaa
set_option maxRecDepth 100000
open Go.RowKit

theorem getI_mid {α : Type} (p : List α) (d : α) (z : List α) : getI (p ++ d :: z) ((p.length : Nat) : Int) = some d := by
  rw [getI_nat]; simp
theorem snoc_of {α : Type} {l : List α} {m : Nat} (h : l.length = m + 1) : ∃ p d, l = p ++ [d] ∧ p.length = m := by
  have hn : l ≠ [] := by intro e; rw [e] at h; simp at h
  exact ⟨l.dropLast, l.getLast hn, (List.dropLast_concat_getLast hn).symm, by simp [h]⟩

/-! ### the next digits -/
def nxt (most : Int) : List Int → Option (List Int)
  | [] => none
  | d :: l => match nxt most l with
    | some r => some (d :: r)
    | none => if d < most then some (wr (d + 1) :: List.replicate l.length 0) else none
def badD (most : Int) (l : List Int) : Bool := l.any fun n => decide (n < 0) || decide (n > most)
def nextS (most : Int) (l : List Int) : List Int × Bool := if badD most l = true then ([], false) else match nxt most l with
  | some r => (r, true)
  | none => ([], false)
theorem nxt_snoc (most : Int) : ∀ (l : List Int) (d : Int), nxt most (l ++ [d]) = if d < most then some (l ++ [wr (d + 1)]) else (nxt most l).map (· ++ [0])
  | [], d => by simp [nxt]
  | e :: l, d => by
    simp only [List.cons_append, nxt, nxt_snoc most l d]
    by_cases h : d < most
    · simp [h]
    · simp only [if_neg h]
      cases nxt most l with
      | some r => rfl
      | none => by_cases h2 : e < most <;> simp [h2, List.replicate_succ']
theorem pNext_L0 (most : Int) (k : Option (List Int × Bool)) : ∀ (m : Nat) (p : List Int) (z : Nat), p.length = m → lf_terminate_Next_L0 k most m (p ++ List.replicate z 0) = match nxt most p with
    | some r => some (r ++ List.replicate z 0, true)
    | none => k
  | 0, p, z, h => by
    obtain rfl := List.length_eq_zero_iff.1 h
    rw [lf_terminate_Next_L0, nxt]
  | m + 1, p, z, h => by
    obtain ⟨p, d, rfl, hp⟩ := snoc_of h
    subst hp
    rw [lf_terminate_Next_L0, List.append_assoc, List.singleton_append, getI_mid, nxt_snoc]
    simp only [Option.bind_some, Int.toNat_natCast]
    have hs : ∀ x, (p ++ d :: List.replicate z 0).set p.length x = p ++ x :: List.replicate z 0 := fun x => by simp [List.set_append]
    rw [hs, hs]
    by_cases hd : d < most
    · simp [hd]
    · rw [decide_eq_false hd, if_neg hd]
      have ih := pNext_L0 most k p.length p (z + 1) rfl
      rw [List.replicate_succ] at ih
      simp only [cond_false, ih]
      cases nxt most p with
      | some r => simp [List.replicate_succ]
      | none => rfl
theorem idxN_lf (most : Int) : ∀ (l : List Int) (i : Nat), (badD most l = false ∧ lf_slices_IndexFunc_s3_L0 (some (-1)) most l i = some (-1)) ∨ (badD most l = true ∧ ∃ j : Nat, lf_slices_IndexFunc_s3_L0 (some (-1)) most l i = some (j : Int))
  | [], i => .inl ⟨rfl, by rw [lf_slices_IndexFunc_s3_L0]⟩
  | d :: l, i => by
    have e1 : lf_terminate_Next_1 d most = some (decide (d < 0) || decide (d > most)) := by
      rw [lf_terminate_Next_1]
      cases decide (d < 0) <;> rfl
    rw [lf_slices_IndexFunc_s3_L0, e1]
    simp only [Option.bind_some, badD, List.any_cons]
    cases (decide (d < 0) || decide (d > most)) with
    | true => exact .inr ⟨rfl, i, rfl⟩
    | false => exact idxN_lf most l (i + 1)
theorem pNext (most : Int) (l : List Int) (hl : l.length ≤ 1000000) : lf_terminate_Next l most = some (nextS most l) := by
  rw [lf_terminate_Next, lf_slices_ContainsFunc_s2, lf_slices_IndexFunc_s3, nextS]
  rcases idxN_lf most l 0 with ⟨h1, h2⟩ | ⟨h1, j, h2⟩
  · rw [h2, h1, appO_eq (by simp; omega) (by simp; omega)]
    simp only [Option.bind_some, List.nil_append]
    have hd : downO (wr ((l.length : Int) - 1)) = some l.length := by
      rw [wr_eq (by omega), downO, if_pos (by omega)]
      congr 1; omega
    have h3 := pNext_L0 most (some ([], false)) l.length l 0 rfl
    rw [List.replicate_zero, List.append_nil] at h3
    rw [hd]
    simp only [Option.bind_some, h3]
    cases nxt most l <;> simp
  · rw [h2, h1]
    simp only [Option.bind_some, if_true]
    rw [decide_eq_true (show (j : Int) ≥ 0 by omega)]
    rfl
def lastLt (most : Int) : List Int → Option Nat
  | [] => none
  | d :: l => match lastLt most l with
    | some j => some (j + 1)
    | none => if d < most then some 0 else none
theorem nxt_last (most : Int) : ∀ l : List Int, (lastLt most l = none ∧ nxt most l = none) ∨ ∃ j d, lastLt most l = some j ∧ l[j]? = some d ∧ nxt most l = some (l.take j ++ wr (d + 1) :: List.replicate (l.length - (j + 1)) 0)
  | [] => .inl ⟨rfl, rfl⟩
  | e :: l => by
    rcases nxt_last most l with ⟨h1, h2⟩ | ⟨j, d, h1, h2, h3⟩
    · simp only [lastLt, nxt, h1, h2]
      by_cases he : e < most
      · exact .inr ⟨0, e, by simp [he], rfl, by simp [he]⟩
      · exact .inl ⟨by simp [he], by simp [he]⟩
    · exact .inr ⟨j + 1, d, by simp [lastLt, h1], by simpa using h2, by simp [nxt, h3]⟩
theorem rNext_L1 (k : List Int → Option (List Int × Bool)) : ∀ (n : Nat) (out : List Int), out.length + n ≤ 1000000 → lf_constraintref42_Next_L1 k n out = k (out ++ List.replicate n 0)
  | 0, out, _ => by rw [lf_constraintref42_Next_L1]; simp
  | n + 1, out, h => by
    rw [lf_constraintref42_Next_L1, appO_eq (by simp; omega) (by simp; omega)]
    simp only [Option.bind_some]
    rw [rNext_L1 k n _ (by simp; omega)]
    simp [List.replicate_succ]
theorem rNext_L0 (k : Int → Option (List Int × Bool)) (most : Int) : ∀ (l : List Int) (at_ : Int) (i : Nat), lf_constraintref42_Next_L0 k most l at_ i = if badD most l = true then some ([], false) else k (match lastLt most l with
    | some j => ((i + j : Nat) : Int)
    | none => at_)
  | [], at_, i => by rw [lf_constraintref42_Next_L0]; rfl
  | d :: l, at_, i => by
    rw [lf_constraintref42_Next_L0]
    simp only [badD, List.any_cons, lastLt]
    by_cases h1 : d < 0
    · simp [h1]
    by_cases h2 : d > most
    · simp [h2]
    simp only [decide_eq_false h1, decide_eq_false h2, cond_false, Bool.false_or, Bool.or_self]
    by_cases h3 : d < most
    · rw [decide_eq_true h3, cond_true, rNext_L0 k most l]
      simp only [badD, if_pos h3]
      cases lastLt most l with
      | none => simp
      | some j => simp only [show i + 1 + j = i + (j + 1) by omega]
    · rw [decide_eq_false h3, cond_false, rNext_L0 k most l]
      simp only [badD, if_neg h3]
      cases lastLt most l with
      | none => rfl
      | some j => simp only [show i + 1 + j = i + (j + 1) by omega]
theorem rNext (most : Int) (l : List Int) (hl : l.length ≤ 1000000) : lf_constraintref42_Next l most = some (nextS most l) := by
  rw [lf_constraintref42_Next, rNext_L0, nextS]
  cases badD most l with
  | true => rfl
  | false =>
    simp only [Bool.false_eq_true, if_false]
    rcases nxt_last most l with ⟨h1, h2⟩ | ⟨j, d, h1, h2, h3⟩
    · rw [h1, h2]; rfl
    · have hj := (List.getElem?_eq_some_iff.1 h2).1
      simp only [h1, h3, Nat.zero_add]
      rw [decide_eq_false (by omega), cond_false, subO, if_pos (by omega)]
      simp only [Option.bind_some, Int.toNat_natCast, Int.toNat_zero, List.drop_zero]
      rw [appO_eq (by simp; omega) (by simp; omega)]
      simp only [Option.bind_some, List.nil_append, getI_nat, h2]
      rw [appO_eq (by simp; omega) (by simp; omega)]
      simp only [Option.bind_some]
      have hn : ((l.length : Int) - wr ((j : Int) + 1)).toNat = l.length - (j + 1) := by
        rw [wr_eq (by omega)]; omega
      rw [hn, rNext_L1 _ _ _ (by simp; omega)]
      simp

/-! ### rankings of digits -/
def takeS : List Int → Int × List Int
  | [] => (0, [])
  | d :: r => (d, r)
theorem take_lf (l : List Int) : lf_terminate_Ranks_1_s1 l = some (takeS l) := by
  rw [lf_terminate_Ranks_1_s1]
  cases l with
  | nil => rfl
  | cons d r =>
    have h0 : (((d :: r).length : Int) == 0) = false := by simp; omega
    rw [h0, cond_false, show getI (d :: r) 0 = some d from rfl, subO, if_pos (by simp; omega)]
    simp [takeS]
def facS : Nat → List Int → List Int × List Int
  | 0, l => ([], l)
  | n + 1, l => ((takeS l).1 :: (facS n (takeS l).2).1, (facS n (takeS l).2).2)
def arN (d : S_api_Decl) : Nat := ((min64 (max64 d.f1_Arity 0) 6) - 0).toNat
theorem arN_le (d : S_api_Decl) : arN d ≤ 6 := by unfold arN; rw [min64_eq, max64_eq]; omega
def rkS : List S_api_Decl → List Int → List S_api_Rank
  | [], _ => []
  | d :: ds, l => ⟨d.f0_Name, (takeS l).1, (facS (arN d) (takeS l).2).1⟩ :: rkS ds (facS (arN d) (takeS l).2).2
theorem pRanks_L1 (k : List Int → ByteArray → Int → List Int → Option (List S_api_Rank)) (s : ByteArray) (c : Int) : ∀ (n : Nat) (l x : List Int), x.length + n ≤ 1000000 → lf_terminate_Ranks_L1 k n l s c x = k (facS n l).2 s c (x ++ (facS n l).1)
  | 0, l, x, _ => by rw [lf_terminate_Ranks_L1]; simp [facS]
  | n + 1, l, x, h => by
    rw [lf_terminate_Ranks_L1, take_lf]
    simp only [Option.bind_some]
    rw [appO_eq (by simp; omega) (by simp; omega)]
    simp only [Option.bind_some]
    rw [pRanks_L1 k s c n _ _ (by simp; omega)]
    simp [facS]
theorem pRanks_L0 (k : List S_api_Rank → Option (List S_api_Rank)) : ∀ (ds : List S_api_Decl) (out : List S_api_Rank) (l : List Int), out.length + ds.length ≤ 1000000 → lf_terminate_Ranks_L0 k ds out l = k (out ++ rkS ds l)
  | [], out, l, _ => by rw [lf_terminate_Ranks_L0]; simp [rkS]
  | d :: ds, out, l, h => by
    simp only [List.length_cons] at h
    rw [lf_terminate_Ranks_L0, take_lf]
    simp only [Option.bind_some]
    have h6 := arN_le d
    rw [show ((min64 (max64 d.f1_Arity 0) 6) - 0).toNat = arN d from rfl, pRanks_L1 _ _ _ _ _ _ (by simp; omega)]
    rw [appO_eq (by simp; omega) (by simp; omega)]
    simp only [Option.bind_some, List.nil_append]
    rw [pRanks_L0 k ds _ _ (by simp; omega)]
    simp [rkS]
theorem pRanks (ds : List S_api_Decl) (l : List Int) (h : ds.length ≤ 1000000) : lf_terminate_Ranks ds l = some (rkS ds l) := by
  rw [lf_terminate_Ranks, pRanks_L0 _ _ _ _ (by simpa using h)]; rfl
theorem digit_lf (l : List Int) (k : Nat) : lf_constraintref42_digit l (k : Int) = some (takeS (l.drop k)).1 := by
  rw [lf_constraintref42_digit]
  by_cases h : k < l.length
  · rw [decide_eq_true (show (k : Int) < (l.length : Int) by omega), cond_true, getI_nat, List.getElem?_eq_getElem h, List.drop_eq_getElem_cons h]
    rfl
  · rw [decide_eq_false (show ¬ (k : Int) < (l.length : Int) by omega), List.drop_eq_nil_of_le (by omega)]
    rfl
theorem take_drop (l : List Int) (k : Nat) : (takeS (l.drop k)).2 = l.drop (k + 1) := by
  by_cases h : k < l.length
  · rw [List.drop_eq_getElem_cons h]; rfl
  · rw [List.drop_eq_nil_of_le (by omega), List.drop_eq_nil_of_le (by omega)]; rfl
theorem fac_drop (l : List Int) : ∀ n k, (facS n (l.drop k)).2 = l.drop (k + n)
  | 0, k => rfl
  | n + 1, k => by rw [facS, take_drop, fac_drop l n]; congr 1; omega
theorem rRanks_L1 (k : Int → ByteArray → Int → List Int → Option (List S_api_Rank)) (l : List Int) (s : ByteArray) (c : Int) : ∀ (n i : Nat) (x : List Int), x.length + n ≤ 1000000 → i + n ≤ 1000000000 → lf_constraintref42_Ranks_L1 k l n (i : Int) s c x = k ((i + n : Nat) : Int) s c (x ++ (facS n (l.drop i)).1)
  | 0, i, x, _, _ => by rw [lf_constraintref42_Ranks_L1]; simp [facS]
  | n + 1, i, x, h, h2 => by
    rw [lf_constraintref42_Ranks_L1, digit_lf]
    simp only [Option.bind_some]
    rw [appO_eq (by simp; omega) (by simp; omega)]
    simp only [Option.bind_some]
    rw [show wr ((i : Int) + 1) = ((i + 1 : Nat) : Int) by rw [wr_eq (by omega)]; omega, rRanks_L1 k l s c n (i + 1) _ (by simp; omega) (by omega)]
    simp only [facS, take_drop, List.append_assoc, List.singleton_append, show i + 1 + n = i + (n + 1) by omega]
theorem rRanks_L0 (k : List S_api_Rank → Option (List S_api_Rank)) (l : List Int) : ∀ (ds : List S_api_Decl) (out : List S_api_Rank) (i : Nat), out.length + ds.length ≤ 1000000 → i + 7 * ds.length ≤ 1000000000 → lf_constraintref42_Ranks_L0 k l ds out (i : Int) = k (out ++ rkS ds (l.drop i))
  | [], out, i, _, _ => by rw [lf_constraintref42_Ranks_L0]; simp [rkS]
  | d :: ds, out, i, h, h2 => by
    simp only [List.length_cons] at h h2
    have h6 := arN_le d
    have ha : ((min64 d.f1_Arity 6) - 0).toNat = arN d := by unfold arN; rw [min64_eq, min64_eq, max64_eq]; omega
    rw [lf_constraintref42_Ranks_L0, digit_lf]
    simp only [Option.bind_some]
    rw [ha, show wr ((i : Int) + 1) = ((i + 1 : Nat) : Int) by rw [wr_eq (by omega)]; omega, rRanks_L1 _ _ _ _ _ _ _ (by simp; omega) (by omega)]
    rw [appO_eq (by simp; omega) (by simp; omega)]
    simp only [Option.bind_some, List.nil_append]
    rw [rRanks_L0 k l ds _ _ (by simp; omega) (by omega)]
    simp [rkS, take_drop, fac_drop]
theorem rRanks (ds : List S_api_Decl) (l : List Int) (h : ds.length ≤ 1000000) : lf_constraintref42_Ranks ds l = some (rkS ds l) := by
  have := rRanks_L0 (fun o => some o) l ds [] 0 (by simpa using h) (by omega)
  rw [lf_constraintref42_Ranks]
  simpa using this

/-! ### equality -/
theorem same_L1 (k : Option Bool) (q : S_api_Rank) : ∀ (l : List Int) (i : Nat), i + l.length = q.f2_Factors.length → (lf_constraintref42_Same_L1 k q l i = k ∨ lf_constraintref42_Same_L1 k q l i = some false) ∧ (q.f2_Factors.drop i = l → lf_constraintref42_Same_L1 k q l i = k)
  | [], i, _ => by rw [lf_constraintref42_Same_L1]; exact ⟨.inl rfl, fun _ => rfl⟩
  | x :: l, i, h => by
    simp only [List.length_cons] at h
    have hi : i < q.f2_Factors.length := by omega
    obtain ⟨h1, h2⟩ := same_L1 k q l (i + 1) (by omega)
    rw [lf_constraintref42_Same_L1, getI_nat, List.getElem?_eq_getElem hi]
    simp only [Option.bind_some]
    refine ⟨?_, fun hd => ?_⟩
    · cases x != q.f2_Factors[i] with
      | true => exact .inr rfl
      | false => exact h1
    · rw [List.drop_eq_getElem_cons hi] at hd
      injection hd with e1 e2
      rw [e1, bne_self_eq_false, cond_false]
      exact h2 e2
theorem same_L0 (b : List S_api_Rank) : ∀ (l : List S_api_Rank) (i : Nat), i + l.length = b.length → (∃ r, lf_constraintref42_Same_L0 (some true) b l i = some r) ∧ (b.drop i = l → lf_constraintref42_Same_L0 (some true) b l i = some true)
  | [], i, _ => by rw [lf_constraintref42_Same_L0]; exact ⟨⟨true, rfl⟩, fun _ => rfl⟩
  | x :: l, i, h => by
    simp only [List.length_cons] at h
    have hi : i < b.length := by omega
    obtain ⟨⟨r, h1⟩, h2⟩ := same_L0 b l (i + 1) (by omega)
    rw [lf_constraintref42_Same_L0, getI_nat, List.getElem?_eq_getElem hi]
    simp only [Option.bind_some]
    refine ⟨?_, fun hd => ?_⟩
    · cases !(x.f0_Name.toList == b[i].f0_Name.toList) with
      | true => exact ⟨false, rfl⟩
      | false =>
        cases x.f1_Const != b[i].f1_Const with
        | true => exact ⟨false, rfl⟩
        | false =>
          cases hl : ((x.f2_Factors.length : Int) != (b[i].f2_Factors.length : Int)) with
          | true => exact ⟨false, rfl⟩
          | false =>
            have hl' : (x.f2_Factors.length : Int) = (b[i].f2_Factors.length : Int) := by simpa using hl
            rcases (same_L1 (lf_constraintref42_Same_L0 (some true) b l (i + 1)) b[i] x.f2_Factors 0 (by omega)).1 with e | e
            · exact ⟨r, e.trans h1⟩
            · exact ⟨false, e⟩
    · rw [List.drop_eq_getElem_cons hi] at hd
      injection hd with e1 e2
      subst e1
      simp only [beq_self_eq_true, Bool.not_true, bne_self_eq_false, cond_false]
      rw [(same_L1 (lf_constraintref42_Same_L0 (some true) b l (i + 1)) b[i] b[i].f2_Factors 0 (by omega)).2 rfl]
      exact h2 e2
theorem same_some (a b : List S_api_Rank) : ∃ r, lf_constraintref42_Same a b = some r := by
  rw [lf_constraintref42_Same]
  cases h : ((a.length : Int) != (b.length : Int)) with
  | true => exact ⟨false, rfl⟩
  | false =>
    have h' : (a.length : Int) = (b.length : Int) := by simpa using h
    exact (same_L0 b a 0 (by omega)).1
theorem same_refl (a : List S_api_Rank) : lf_constraintref42_Same a a = some true := by
  rw [lf_constraintref42_Same, bne_self_eq_false, cond_false]
  exact (same_L0 a a 0 (by omega)).2 rfl
theorem sameInts_L0 (b : List Int) : ∀ (l : List Int) (i : Nat), b.drop i = l → lf_constraintref03_SameInts_L0 (some true) b l i = some true
  | [], i, _ => by rw [lf_constraintref03_SameInts_L0]
  | x :: l, i, h => by
    have hi : i < b.length := by
      apply Classical.byContradiction
      intro hn
      rw [List.drop_eq_nil_of_le (by omega)] at h
      cases h
    rw [List.drop_eq_getElem_cons hi] at h
    injection h with e1 e2
    rw [lf_constraintref03_SameInts_L0, decide_eq_true (show (i : Int) < (b.length : Int) by omega), cond_true, getI_nat, List.getElem?_eq_getElem hi, e1]
    simp only [Option.bind_some, bne_self_eq_false, cond_false]
    exact sameInts_L0 b l (i + 1) e2
theorem sameInts_refl (a : List Int) : lf_constraintref03_SameInts a a = some true := by
  rw [lf_constraintref03_SameInts, bne_self_eq_false, cond_false]
  exact sameInts_L0 a a 0 rfl

theorem digits_lf (fuel : Nat) (hex : lf_constraintlaw42_exampleHolds fuel = some true) (ds : List S_api_Decl) (l : List Int) (most : Int) : lf_constraintlaw42_TerminateDigits fuel ds l most = some true := by
  rw [lf_constraintlaw42_TerminateDigits, hex]
  by_cases h1 : (ds.length : Int) > 20
  · rw [decide_eq_true h1]; rfl
  by_cases h2 : (l.length : Int) > 20
  · rw [decide_eq_false h1, decide_eq_true h2]; rfl
  rw [decide_eq_false h1, decide_eq_false h2, pNext most l (by omega), rNext most l (by omega), pRanks ds l (by omega), rRanks ds l (by omega)]
  simp [sameInts_refl, same_refl]

/-! ### all lists of digits -/
def valD (B : Nat) : List Int → Nat
  | [] => 0
  | d :: l => d.toNat * B ^ l.length + valD B l
def inR (most : Int) (l : List Int) : Prop := ∀ d ∈ l, 0 ≤ d ∧ d ≤ most
theorem inR_bad {most : Int} {l : List Int} (h : inR most l) : badD most l = false := by
  rw [badD, List.any_eq_false]
  intro d hd
  have := h d hd
  simp; omega
theorem valD_zero (B : Nat) : ∀ n, valD B (List.replicate n 0) = 0
  | 0 => rfl
  | n + 1 => by simp [List.replicate_succ, valD, valD_zero B n]
theorem inR_zero {most : Int} (h : 0 ≤ most) (n : Nat) : inR most (List.replicate n 0) := fun d hd => by
  have := (List.mem_replicate.1 hd).2
  omega
theorem nxt_val {most : Int} (h0 : 0 ≤ most) (h1 : most ≤ 1000) : ∀ l : List Int, inR most l → (nxt most l = none ∧ valD (most.toNat + 1) l + 1 = (most.toNat + 1) ^ l.length) ∨ ∃ r, nxt most l = some r ∧ r.length = l.length ∧ inR most r ∧ valD (most.toNat + 1) r = valD (most.toNat + 1) l + 1
  | [], _ => .inl ⟨rfl, by simp [valD]⟩
  | d :: l, h => by
    have hd := h d (List.mem_cons_self ..)
    have hl : inR most l := fun x hx => h x (List.mem_cons_of_mem _ hx)
    rcases nxt_val h0 h1 l hl with ⟨e1, e2⟩ | ⟨r, e1, e2, e3, e4⟩
    · by_cases hm : d < most
      · refine .inr ⟨wr (d + 1) :: List.replicate l.length 0, by simp [nxt, e1, hm], by simp, ?_, ?_⟩
        · intro x hx
          rcases List.mem_cons.1 hx with rfl | hx
          · rw [wr_eq (by omega)]; omega
          · exact inR_zero h0 _ x hx
        · rw [wr_eq (by omega)]
          simp only [valD, List.length_replicate, valD_zero]
          rw [show (d + 1).toNat = d.toNat + 1 by omega, Nat.succ_mul]
          omega
      · refine .inl ⟨by simp [nxt, e1, hm], ?_⟩
        have : d.toNat = most.toNat := by omega
        simp only [valD, List.length_cons, this, Nat.pow_succ]
        rw [Nat.add_assoc, e2, Nat.mul_comm, ← Nat.mul_succ]
    · refine .inr ⟨d :: r, by simp [nxt, e1], by simp [e2], ?_, ?_⟩
      · intro x hx
        rcases List.mem_cons.1 hx with rfl | hx
        · exact hd
        · exact e3 x hx
      · simp only [valD, e2, e4]; omega
theorem visits_L2 (most : Int) (hm : most ≤ 1000) (k : Int → Option Bool) (rr : List Int × Bool) : ∀ (l r : List Int) (i : Nat), inR most l → nxt most l = some r → rr.1.drop i = r → ∃ j d, lf_constraintlaw42_TerminateVisits_L2 k rr l i = k ((i + j : Nat) : Int) ∧ l[j]? = some d ∧ r[j]? = some (wr (d + 1))
  | [], r, i, _, h, _ => by cases h
  | d :: l, r, i, hr, h, hd => by
    have hl : inR most l := fun x hx => hr x (List.mem_cons_of_mem _ hx)
    have h0 := hr d (List.mem_cons_self ..)
    have hi : i < rr.1.length := by
      apply Classical.byContradiction
      intro hn
      rw [List.drop_eq_nil_of_le (by omega)] at hd
      subst hd
      simp only [nxt] at h
      split at h
      · cases h
      · split at h <;> cases h
    rw [List.drop_eq_getElem_cons hi] at hd
    rw [lf_constraintlaw42_TerminateVisits_L2, decide_eq_true (show (i : Int) < (rr.1.length : Int) by omega), cond_true, getI_nat, List.getElem?_eq_getElem hi]
    simp only [Option.bind_some]
    simp only [nxt] at h
    split at h
    · rename_i r2 h2
      injection h with h
      subst h
      injection hd with e1 e2
      obtain ⟨j, x, g1, g2, g3⟩ := visits_L2 most hm k rr l r2 (i + 1) hl h2 e2
      refine ⟨j + 1, x, ?_, by simpa using g2, by simpa using g3⟩
      rw [e1, beq_self_eq_true, cond_true, g1, show i + 1 + j = i + (j + 1) by omega]
    · split at h
      · rename_i hlt
        injection h with h
        subst h
        injection hd with e1 e2
        refine ⟨0, d, ?_, rfl, rfl⟩
        have hne : (d == rr.1[i]) = false := by
          rw [e1, wr_eq (by omega)]
          simp
          omega
        rw [hne, cond_false, Nat.add_zero]
      · cases h
theorem visits_L1 (k : Int → Option Bool) (m : Int) (hm0 : 0 ≤ m) (hm : m ≤ 3) (W : Nat) (hW : W ≤ 100000) : ∀ (fuel : Nat) (l : List Int), inR m l → (m.toNat + 1) ^ l.length = W → l.length ≤ 1000 → W < fuel + valD (m.toNat + 1) l + 1 →
    lf_constraintlaw42_TerminateVisits_L1 k m (W : Int) fuel ((valD (m.toNat + 1) l + 1 : Nat) : Int) l = k (W : Int)
  | 0, l, hr, hB, hlen, hf => by
    exfalso
    rcases nxt_val hm0 (by omega) l hr with ⟨_, e2⟩ | ⟨r, e1, e2, e3, e4⟩
    · omega
    · have : ∀ (l : List Int), inR m l → valD (m.toNat + 1) l < (m.toNat + 1) ^ l.length := by
        intro l
        induction l with
        | nil => intro _; simp [valD]
        | cons d l ih =>
          intro h
          have h1 := ih fun x hx => h x (List.mem_cons_of_mem _ hx)
          have h2 := h d (List.mem_cons_self ..)
          simp only [valD, List.length_cons, Nat.pow_succ]
          have h3 : d.toNat * (m.toNat + 1) ^ l.length ≤ m.toNat * (m.toNat + 1) ^ l.length := Nat.mul_le_mul_right _ (by omega)
          have h4 : (m.toNat + 1) ^ l.length * (m.toNat + 1) = m.toNat * (m.toNat + 1) ^ l.length + (m.toNat + 1) ^ l.length := by rw [Nat.mul_comm, Nat.succ_mul]
          omega
      have := this l hr
      omega
  | fuel + 1, l, hr, hB, hlen, hf => by
    have hw : IntKind.i64.wrap m = m := wr_eq (by omega)
    rw [lf_constraintlaw42_TerminateVisits_L1, hw, pNext m l (by omega), nextS, inR_bad hr]
    simp only [Option.bind_some, Bool.false_eq_true, if_false]
    rcases nxt_val hm0 (by omega) l hr with ⟨e1, e2⟩ | ⟨r, e1, e2, e3, e4⟩
    · rw [e1, decide_eq_true (by omega)]
      simp only [Bool.not_false, cond_true]
      congr 1; omega
    · have hlt : valD (m.toNat + 1) l + 1 ≤ W := by
        rcases nxt_val hm0 (by omega) r e3 with ⟨_, g⟩ | ⟨r', _, _, _, g⟩
        · rw [e2] at g; omega
        · have : ∀ (l : List Int), inR m l → valD (m.toNat + 1) l < (m.toNat + 1) ^ l.length := by
            intro l
            induction l with
            | nil => intro _; simp [valD]
            | cons d l ih =>
              intro h
              have h1 := ih fun x hx => h x (List.mem_cons_of_mem _ hx)
              have h2 := h d (List.mem_cons_self ..)
              simp only [valD, List.length_cons, Nat.pow_succ]
              have h3 : d.toNat * (m.toNat + 1) ^ l.length ≤ m.toNat * (m.toNat + 1) ^ l.length := Nat.mul_le_mul_right _ (by omega)
              have h4 : (m.toNat + 1) ^ l.length * (m.toNat + 1) = m.toNat * (m.toNat + 1) ^ l.length + (m.toNat + 1) ^ l.length := by rw [Nat.mul_comm, Nat.succ_mul]
              omega
          have := this r e3
          rw [e2] at this
          omega
      rw [e1, decide_eq_true (by omega)]
      simp only [Bool.not_true, cond_true, cond_false]
      obtain ⟨j, d, g1, g2, g3⟩ := visits_L2 m (by omega) (fun at_19 =>
        (bif ((r.length : Int) != (l.length : Int)) then some (false) else
        (bif (decide (at_19 ≥ (r.length : Int))) then some (false) else
        ((getI r at_19).bind fun q_22 =>
        ((getI l at_19).bind fun q_23 =>
        (bif (q_22 != (wr (q_23 + (1 : Int)))) then some (false) else
        (lf_constraintlaw42_TerminateVisits_L1 k m (W : Int) fuel (wr (((valD (m.toNat + 1) l + 1 : Nat) : Int) + (1 : Int))) r))))))) (r, true) l r 0 hr e1 rfl
      refine g1.trans ?_
      have hj := (List.getElem?_eq_some_iff.1 g2).1
      simp only [Nat.zero_add, e2, bne_self_eq_false, cond_false, getI_nat, g2, g3, Option.bind_some]
      rw [decide_eq_false (by omega), cond_false, show wr (((valD (m.toNat + 1) l + 1 : Nat) : Int) + 1) = ((valD (m.toNat + 1) r + 1 : Nat) : Int) by rw [wr_eq (by omega), e4]; omega]
      exact visits_L1 k m hm0 hm W hW fuel r e3 (by rw [e2]; exact hB) (by omega) (by omega)
theorem visits_L0 (k : Int → Option Bool) (m : Int) (hm0 : 0 ≤ m) (hm : m ≤ 3) : ∀ (n : Nat) (w : Nat), w * (m.toNat + 1) ^ n ≤ 100000 → lf_constraintlaw42_TerminateVisits_L0 k m n (w : Int) = k ((w * (m.toNat + 1) ^ n : Nat) : Int)
  | 0, w, _ => by rw [lf_constraintlaw42_TerminateVisits_L0]; simp
  | n + 1, w, h => by
    have h1 : w * (m.toNat + 1) ≤ 100000 := by
      refine Nat.le_trans ?_ h
      rw [Nat.pow_succ, Nat.mul_comm ((m.toNat + 1) ^ n), ← Nat.mul_assoc]
      exact Nat.le_mul_of_pos_right _ (Nat.pow_pos (by omega))
    have hw : IntKind.i64.wrap m = m := wr_eq (by omega)
    have e : wr ((w : Int) * wr (m + 1)) = ((w * (m.toNat + 1) : Nat) : Int) := by
      have hm1 : m + 1 = ((m.toNat + 1 : Nat) : Int) := by omega
      rw [show wr (m + 1) = m + 1 from wr_eq (by omega), hm1, ← Int.natCast_mul, wr_eq (by omega)]
    rw [lf_constraintlaw42_TerminateVisits_L0, hw, e, visits_L0 k m hm0 hm n _ (by rw [Nat.mul_assoc, Nat.mul_comm (m.toNat + 1), ← Nat.pow_succ]; exact h)]
    rw [Nat.mul_assoc, Nat.mul_comm (m.toNat + 1), ← Nat.pow_succ]
theorem visits_lf (fuel : Nat) (hf : 2000 ≤ fuel) (hex : lf_constraintlaw42_exampleHolds fuel = some true) (n m : Int) (hn : 0 ≤ n) (hm : 0 ≤ m) : lf_constraintlaw42_TerminateVisits fuel n m = some true := by
  rw [lf_constraintlaw42_TerminateVisits, hex]
  by_cases h1 : n > 5
  · rw [decide_eq_true h1]; rfl
  by_cases h2 : m > 3
  · rw [decide_eq_false h1, decide_eq_true h2]; rfl
  rw [decide_eq_false h1, decide_eq_false h2]
  have hw : IntKind.i64.wrap n = n := wr_eq (by omega)
  have hB : (m.toNat + 1) ^ n.toNat ≤ 1024 := Nat.le_trans (Nat.pow_le_pow_left (show m.toNat + 1 ≤ 4 by omega) _) (Nat.pow_le_pow_right (by omega) (show n.toNat ≤ 5 by omega))
  simp only [cond_false, hw, Int.sub_zero]
  have h0 := visits_L0 (fun want_7 =>
    ((makeO 8 n).bind fun n_8 =>
    (lf_constraintlaw42_TerminateVisits_L1 (fun visits_12 =>
    (bif (visits_12 == want_7) then ((some true).bind fun r_14 => some (r_14)) else some (false))) m want_7 fuel 1 (List.replicate n_8 0)))) m hm (by omega) n.toNat 1 (by omega)
  refine h0.trans ?_
  rw [makeO, if_pos (by omega), Nat.one_mul]
  simp only [Option.bind_some]
  have h3 := visits_L1 (fun visits_12 => (bif (visits_12 == (((m.toNat + 1) ^ n.toNat : Nat) : Int)) then some true else some (false))) m hm (by omega) ((m.toNat + 1) ^ n.toNat) (by omega) fuel (List.replicate n.toNat 0) (inR_zero hm _) (by rw [List.length_replicate]) (by rw [List.length_replicate]; omega) (by rw [valD_zero]; omega)
  rw [valD_zero] at h3
  refine h3.trans ?_
  simp
end Go.Proofs.Ythcgefbigimgoaa


namespace Go.Proofs.Ythcgefbigimgoaa
set_option maxRecDepth 100000
open Go.RowKit

theorem nxt_len (most : Int) : ∀ (l r : List Int), nxt most l = some r → r.length = l.length
  | [], _, h => by cases h
  | d :: l, r, h => by
    simp only [nxt] at h
    split at h
    · rename_i r2 h2
      injection h with h
      subst h
      simp [nxt_len most l r2 h2]
    · split at h
      · injection h with h
        subst h
        simp
      · cases h
theorem nextS_len (most : Int) (l : List Int) : (nextS most l).1.length ≤ l.length := by
  unfold nextS
  split
  · simp
  · cases h : nxt most l with
    | none => simp
    | some r => simpa using Nat.le_of_eq (nxt_len most l r h)
def RBr (p : S_api_Program) : Prop := ∀ r ∈ p.f1_Rules, Br r
theorem check_eq (fuel : Nat) (hf : 1048577 ≤ fuel) (p : S_api_Program) (hr : RBr p) (ranks : List S_api_Rank) : lf_rank_Check fuel p ranks = lf_constraintref41_Check fuel p ranks := by
  obtain ⟨e, h1, h2⟩ := check_same fuel hf p ranks hr
  rw [h1, h2]
theorem find_L (fuel : Nat) (hf : 1048577 ≤ fuel) (most : Int) (p : S_api_Program) (hr : RBr p) (hd : p.f0_Decls.length ≤ 1000000) (k : Option (List S_api_Rank × Int)) : ∀ (n : Nat) (l : List Int) (more : Bool), l.length ≤ 1000000 → lf_terminate_Find_L0 k fuel most p n l more = lf_constraintref42_Find_L1 k fuel most p n l more
  | 0, l, more, _ => by rw [lf_terminate_Find_L0, lf_constraintref42_Find_L1]
  | n + 1, l, more, hl => by
    rw [lf_terminate_Find_L0, lf_constraintref42_Find_L1, pRanks _ _ hd, rRanks _ _ hd, pNext most l hl, rNext most l hl]
    simp only [Option.bind_some, check_eq fuel hf p hr]
    rw [find_L fuel hf most p hr hd k n _ _ (Nat.le_trans (nextS_len most l) hl)]
def okD (d : S_api_Decl) : Bool := !decide (d.f1_Arity < 0) && !decide (d.f1_Arity > 6)
theorem count_L (k : Int → Option (List S_api_Rank × Int)) : ∀ (ds : List S_api_Decl) (n : Int), (ds.all okD = true ∧ ∃ m, lf_terminate_count_L0 (fun n_3 => some (n_3, true)) ds n = some (m, true) ∧ lf_constraintref42_Find_L0 k ds n = k m ∧ m = ds.foldl (fun n d => wr (wr (n + 1) + d.f1_Arity)) n) ∨ (ds.all okD = false ∧ lf_terminate_count_L0 (fun n_3 => some (n_3, true)) ds n = some (0, false) ∧ lf_constraintref42_Find_L0 k ds n = some ([], 2))
  | [], n => .inl ⟨rfl, n, by rw [lf_terminate_count_L0], by rw [lf_constraintref42_Find_L0], rfl⟩
  | d :: ds, n => by
    rw [lf_terminate_count_L0, lf_constraintref42_Find_L0]
    simp only [List.all_cons, okD]
    cases decide (d.f1_Arity < 0) with
    | true => exact .inr ⟨rfl, rfl, rfl⟩
    | false =>
      cases decide (d.f1_Arity > 6) with
      | true => exact .inr ⟨rfl, rfl, rfl⟩
      | false =>
        have hw : wr (n + wr (1 + d.f1_Arity)) = wr (wr (n + 1) + d.f1_Arity) := by rw [wr_addR, wr_addL, Int.add_assoc]
        simp only [cond_false, hw, Bool.not_false, Bool.true_and, List.foldl_cons]
        exact count_L k ds _
theorem find_eq (fuel : Nat) (hf : 1048577 ≤ fuel) (most : Int) (p : S_api_Program) (hr : RBr p) (hd : p.f0_Decls.length ≤ 1000000) : lf_terminate_Find fuel p most = lf_constraintref42_Find fuel p most := by
  rw [lf_terminate_Find, lf_constraintref42_Find, lf_terminate_count]
  rcases count_L (fun n_3 =>
    (bif (decide (n_3 > (8 : Int))) then some ([], 6) else
    (bif (decide (most < (1 : Int))) then some ([], 6) else
    (bif (decide (most > (3 : Int))) then some ([], 6) else
    ((makeO 8 n_3).bind fun n_7 =>
    (lf_constraintref42_Find_L1 (some ([], 13)) fuel most p fuel (List.replicate n_7 0) true)))))) p.f0_Decls 0 with ⟨_, m, h1, h2, _⟩ | ⟨_, h1, h2⟩
  · rw [h1, h2]
    simp only [Option.bind_some, Bool.not_true, cond_false]
    cases h8 : decide (m > 8) with
    | true => rfl
    | false =>
      have h8' := of_decide_eq_false h8
      cases decide (most < 1) with
      | true => rfl
      | false =>
        cases decide (most > 3) with
        | true => rfl
        | false =>
          simp only [cond_false]
          cases hm : makeO 8 m with
          | none => rfl
          | some n =>
            have := (makeO_some hm).1
            simp only [Option.bind_some]
            exact find_L fuel hf most p hr hd _ fuel _ true (by simp; omega)
  · rw [h1, h2]
    rfl

/-! ### the examples -/
def exOne : S_api_Rule := ⟨⟨#[]⟩, [], [(⟨⟨#[112]⟩, [(T.mk 1 0 ⟨#[]⟩ [])]⟩ : At)], [], [(⟨0, ⟨#[113]⟩, [(T.mk 1 0 ⟨#[]⟩ [])]⟩ : Gl)], 1⟩
def exTwo : S_api_Rule := ⟨⟨#[]⟩, [], [(⟨⟨#[112]⟩, [(T.mk 2 0 ⟨#[102]⟩ [(T.mk 1 0 ⟨#[]⟩ [])])]⟩ : At)], [], [(⟨0, ⟨#[112]⟩, [(T.mk 1 0 ⟨#[]⟩ [])]⟩ : Gl)], 1⟩
theorem exOne_br : Br exOne := ⟨by decide, by decide, by decide, (by simp [exOne]), (by simp [exOne, Bf, wtL, wt]), (by simp [exOne, Bg, Bf, wtL, wt])⟩
theorem exTwo_br : Br exTwo := ⟨by decide, by decide, by decide, (by simp [exTwo]), (by simp [exTwo, Bf, wtL, wt]), (by simp [exTwo, Bg, Bf, wtL, wt])⟩
theorem ex_find1 : lf_constraintref42_Find 1048597 ⟨[(⟨⟨#[112]⟩, 1⟩ : S_api_Decl), (⟨⟨#[113]⟩, 1⟩ : S_api_Decl)], [exOne]⟩ 2 = some ([(⟨⟨#[112]⟩, 0, [1]⟩ : S_api_Rank), (⟨⟨#[113]⟩, 0, [0]⟩ : S_api_Rank)], 0) := by kernel_rfl
theorem ex_find2 : lf_constraintref42_Find 1048597 ⟨[(⟨⟨#[112]⟩, 1⟩ : S_api_Decl)], [exTwo]⟩ 1 = some ([(⟨⟨#[112]⟩, 0, [1]⟩ : S_api_Rank)], 0) := by kernel_rfl
theorem ex_next1 : lf_terminate_Next [0, 2, 2] 2 = some ([1, 0, 0], true) := by kernel_rfl
theorem ex_next2 : lf_terminate_Next [2, 2] 2 = some ([], false) := by kernel_rfl
theorem ex_ranks : lf_terminate_Ranks [(⟨⟨#[112]⟩, 2⟩ : S_api_Decl)] [1] = some [⟨⟨#[112]⟩, 1, [0, 0]⟩] := by kernel_rfl
theorem examples_lf : lf_constraintlaw42_exampleHolds 1048597 = some true := by
  have f1 : lf_terminate_Find 1048597 ⟨[(⟨⟨#[112]⟩, 1⟩ : S_api_Decl), (⟨⟨#[113]⟩, 1⟩ : S_api_Decl)], [exOne]⟩ 2 = some ([(⟨⟨#[112]⟩, 0, [1]⟩ : S_api_Rank), (⟨⟨#[113]⟩, 0, [0]⟩ : S_api_Rank)], 0) :=
    (find_eq 1048597 (by omega) 2 ⟨[(⟨⟨#[112]⟩, 1⟩ : S_api_Decl), (⟨⟨#[113]⟩, 1⟩ : S_api_Decl)], [exOne]⟩ (fun r hr => by rw [List.mem_singleton.1 hr]; exact exOne_br) (by decide)).trans ex_find1
  have f2 : lf_terminate_Find 1048597 ⟨[(⟨⟨#[112]⟩, 1⟩ : S_api_Decl)], [exTwo]⟩ 1 = some ([(⟨⟨#[112]⟩, 0, [1]⟩ : S_api_Rank)], 0) :=
    (find_eq 1048597 (by omega) 1 ⟨[(⟨⟨#[112]⟩, 1⟩ : S_api_Decl)], [exTwo]⟩ (fun r hr => by rw [List.mem_singleton.1 hr]; exact exTwo_br) (by decide)).trans ex_find2
  have v : lf_constraintref03_Var 0 = some (T.mk 1 0 ⟨#[]⟩ []) := by rw [lf_constraintref03_Var]
  have g1 : lf_constraintlaw42_func1 ⟨#[112]⟩ ⟨#[113]⟩ (T.mk 1 0 ⟨#[]⟩ []) = some exOne := by rw [lf_constraintlaw42_func1, v]; rfl
  have g2 : lf_constraintref03_Fun ⟨#[102]⟩ [T.mk 1 0 ⟨#[]⟩ []] = some (T.mk 2 0 ⟨#[102]⟩ [(T.mk 1 0 ⟨#[]⟩ [])]) := by rw [lf_constraintref03_Fun, appO_eq (by decide) (by decide)]; rfl
  have g3 : lf_constraintlaw42_func1 ⟨#[112]⟩ ⟨#[112]⟩ (T.mk 2 0 ⟨#[102]⟩ [(T.mk 1 0 ⟨#[]⟩ [])]) = some exTwo := by rw [lf_constraintlaw42_func1, v]; rfl
  rw [lf_constraintlaw42_exampleHolds, v]
  simp only [Option.bind_some, g1, g2, g3, f1, f2, ex_next1, ex_next2, ex_ranks, same_refl, sameInts_refl]
  rfl
theorem gives_TerminateDigits (ds : List S_api_Decl) (l : List Int) (most : Int) : Gives Try.prog 4 [.lst (ds.map enc_S_api_Decl), .lst (l.map (D.int .i64)), .int .i64 most] (.bool true) :=
  lg_constraintlaw42_TerminateDigits 1048597 ds l most true (digits_lf _ examples_lf ds l most)
theorem gives_TerminateVisits (n m : Int) (hn : 0 ≤ n ∧ n ≤ 255) (hm : 0 ≤ m ∧ m ≤ 255) : Gives Try.prog 5 [.int .u8 n, .int .u8 m] (.bool true) :=
  lg_constraintlaw42_TerminateVisits 1048597 n m true (visits_lf _ (by omega) examples_lf n m hn.1 hm.1)

/-! ### the search comes to an end -/
theorem check_some (fuel : Nat) (hf : 1048577 ≤ fuel) (p : S_api_Program) (hr : RBr p) (ranks : List S_api_Rank) : ∃ e, lf_constraintref41_Check fuel p ranks = some e ∧ lf_rank_Check fuel p ranks = some e := by
  obtain ⟨e, h1, h2⟩ := check_same fuel hf p ranks hr
  exact ⟨e, h2, h1⟩
/-- What the search comes to: with 0 a ranking that is checked, or nothing. And the law's own search comes to true. -/
theorem search (fuel : Nat) (hf : 1048577 ≤ fuel) (most : Int) (h0 : 0 ≤ most) (h1 : most ≤ 1000) (p : S_api_Program) (hr : RBr p) (hd : p.f0_Decls.length ≤ 1000000) : ∀ (n : Nat) (l : List Int), inR most l → l.length ≤ 1000000 → (most.toNat + 1) ^ l.length < n + valD (most.toNat + 1) l →
    ∃ r, lf_constraintref42_Find_L1 (some ([], 13)) fuel most p n l true = some r ∧ ((r.2 = 0 ∧ lf_rank_Check fuel p r.1 = some 0) ∨ r = ([], 13)) ∧
      ∀ (k : Option Bool), lf_constraintlaw42_exampleHolds fuel = some true → (r = ([], 13) → k = some true) → ∀ n2, n ≤ n2 → lf_constraintlaw42_TerminateFirst_L0 k fuel most p r n2 l true = some true
  | 0, l, hi, _, hB => by
    exfalso
    have : ∀ (l : List Int), inR most l → valD (most.toNat + 1) l < (most.toNat + 1) ^ l.length := by
      intro l
      induction l with
      | nil => intro _; simp [valD]
      | cons d l ih =>
        intro h
        have h1 := ih fun x hx => h x (List.mem_cons_of_mem _ hx)
        have h2 := h d (List.mem_cons_self ..)
        simp only [valD, List.length_cons, Nat.pow_succ]
        have h3 : d.toNat * (most.toNat + 1) ^ l.length ≤ most.toNat * (most.toNat + 1) ^ l.length := Nat.mul_le_mul_right _ (by omega)
        have h4 : (most.toNat + 1) ^ l.length * (most.toNat + 1) = most.toNat * (most.toNat + 1) ^ l.length + (most.toNat + 1) ^ l.length := by rw [Nat.mul_comm, Nat.succ_mul]
        omega
    have := this l hi
    omega
  | n + 1, l, hi, hl, hB => by
    obtain ⟨e, c1, c2⟩ := check_some fuel hf p hr (rkS p.f0_Decls l)
    rw [lf_constraintref42_Find_L1, rRanks _ _ hd]
    simp only [cond_true, Option.bind_some, c1]
    by_cases he : e = 0
    · subst he
      refine ⟨(rkS p.f0_Decls l, 0), rfl, .inl ⟨rfl, c2⟩, fun k hex _ n2 hn2 => ?_⟩
      obtain ⟨n2, rfl⟩ : ∃ m, n2 = m + 1 := ⟨n2 - 1, by omega⟩
      rw [lf_constraintlaw42_TerminateFirst_L0, pRanks _ _ hd]
      simp [same_refl, hex]
    · have he' : (e == 0) = false := by simpa using he
      -- the rest, from the next digits on
      have rest : ∃ r, lf_constraintref42_Find_L1 (some ([], 13)) fuel most p n (nextS most l).1 (nextS most l).2 = some r ∧ ((r.2 = 0 ∧ lf_rank_Check fuel p r.1 = some 0) ∨ r = ([], 13)) ∧
          ∀ (k : Option Bool), lf_constraintlaw42_exampleHolds fuel = some true → (r = ([], 13) → k = some true) → ∀ n2, n ≤ n2 → lf_constraintlaw42_TerminateFirst_L0 k fuel most p r n2 (nextS most l).1 (nextS most l).2 = some true := by
        rw [nextS, inR_bad hi]
        simp only [Bool.false_eq_true, if_false]
        rcases nxt_val h0 h1 l hi with ⟨g1, g2⟩ | ⟨r, g1, g2, g3, g4⟩
        · rw [g1]
          obtain ⟨n, rfl⟩ : ∃ m, n = m + 1 := ⟨n - 1, by omega⟩
          refine ⟨([], 13), by rw [lf_constraintref42_Find_L1]; rfl, .inr rfl, fun k _ hk n2 hn2 => ?_⟩
          obtain ⟨n2, rfl⟩ : ∃ m, n2 = m + 1 := ⟨n2 - 1, by omega⟩
          rw [lf_constraintlaw42_TerminateFirst_L0]
          exact hk rfl
        · rw [g1]
          exact search fuel hf most h0 h1 p hr hd n r g3 (by omega) (by rw [g2, g4]; omega)
      obtain ⟨r, r1, r2, r3⟩ := rest
      refine ⟨r, ?_, r2, fun k hex hk n2 hn2 => ?_⟩
      · rw [he', cond_false, rNext most l hl]
        exact r1
      · obtain ⟨n2, rfl⟩ : ∃ m, n2 = m + 1 := ⟨n2 - 1, by omega⟩
        rw [lf_constraintlaw42_TerminateFirst_L0, pRanks _ _ hd, rNext most l hl]
        obtain ⟨b, hb⟩ := same_some (rkS p.f0_Decls l) r.1
        simp only [cond_true, Option.bind_some, hb, c2, he', cond_false, hex]
        have := r3 k hex hk n2 (by omega)
        cases r.2 == 0 with
        | true =>
          cases b with
          | true => rfl
          | false => exact this
        | false => exact this

/-! ### small programs -/
theorem tiny_L0 : ∀ (l : List T) (n : Int), (∀ t ∈ l, wt t ≤ 1048576) → ∃ b, lf_constraintlaw23_tiny_L0 (some true) l n = some b
  | [], n, _ => ⟨true, by rw [lf_constraintlaw23_tiny_L0]⟩
  | t :: l, n, h => by
    rw [lf_constraintlaw23_tiny_L0, x_sizeT_eq t (Nat.le_trans (h t (List.mem_cons_self ..)) (by omega))]
    simp only [Option.bind_some]
    cases decide (wr (n + ((sizeT t : Nat) : Int)) > 60) with
    | true => exact ⟨false, rfl⟩
    | false => exact tiny_L0 l _ fun u hu => h u (List.mem_cons_of_mem _ hu)
theorem tiny_lf (l : List T) (h : wtL l ≤ 1048576) : ∃ b, lf_constraintlaw23_tiny l = some b := by
  rw [lf_constraintlaw23_tiny]
  cases decide ((l.length : Int) > 8) with
  | true => exact ⟨false, rfl⟩
  | false => exact tiny_L0 l 0 fun t ht => Nat.le_trans (wtL_mem ht) h
theorem atoms23_lf : ∀ l : List At, (∀ a ∈ l, Bf a) → ∃ b, lf_constraintlaw23_Atoms l = some b := by
  intro l h
  rw [lf_constraintlaw23_Atoms]
  induction l with
  | nil => exact ⟨true, by rw [lf_constraintlaw23_Atoms_L0]⟩
  | cons a l ih =>
    obtain ⟨b, e⟩ := tiny_lf a.ts (h a (List.mem_cons_self ..))
    rw [lf_constraintlaw23_Atoms_L0, e]
    simp only [Option.bind_some]
    cases b with
    | false => exact ⟨false, rfl⟩
    | true => exact ih fun x hx => h x (List.mem_cons_of_mem _ hx)
theorem goals23_lf (l : List Gl) (most : Int) (h : ∀ g ∈ l, Bg g) : ∃ b, lf_constraintlaw23_Goals l most = some b := by
  rw [lf_constraintlaw23_Goals]
  cases decide ((l.length : Int) > most) with
  | true => exact ⟨false, rfl⟩
  | false =>
    simp only [cond_false]
    induction l with
    | nil => exact ⟨true, by rw [lf_constraintlaw23_Goals_L0]⟩
    | cons g l ih =>
      obtain ⟨b, e⟩ := tiny_lf g.ts (h g (List.mem_cons_self ..))
      rw [lf_constraintlaw23_Goals_L0, e]
      simp only [Option.bind_some]
      cases b with
      | false => exact ⟨false, rfl⟩
      | true => exact ih fun x hx => h x (List.mem_cons_of_mem _ hx)
/-- Every constraint and goal of the rule has at most 1048576 nodes. -/
structure Wr (r : S_api_Rule) : Prop where
  wk : ∀ a ∈ r.f1_Keep, Bf a
  wr : ∀ a ∈ r.f2_Remove, Bf a
  wg : ∀ g ∈ r.f3_Guard, Bg g
  wb : ∀ g ∈ r.f4_Body, Bg g
theorem programs_L0 : ∀ l : List S_api_Rule, (∀ r ∈ l, Wr r) → ∃ b, lf_constraintlaw23_Programs_L0 (some true) l = some b ∧ (b = true → ∀ r ∈ l, Br r)
  | [], _ => ⟨true, by rw [lf_constraintlaw23_Programs_L0], fun _ r hr => by cases hr⟩
  | r :: l, h => by
    have hw := h r (List.mem_cons_self ..)
    obtain ⟨b, e1, e2⟩ := programs_L0 l fun x hx => h x (List.mem_cons_of_mem _ hx)
    obtain ⟨b1, f1⟩ := atoms23_lf r.f1_Keep hw.wk
    obtain ⟨b2, f2⟩ := atoms23_lf r.f2_Remove hw.wr
    obtain ⟨b3, f3⟩ := goals23_lf r.f3_Guard 6 hw.wg
    obtain ⟨b4, f4⟩ := goals23_lf r.f4_Body 6 hw.wb
    rw [lf_constraintlaw23_Programs_L0, f1, f2, f3, f4]
    simp only [Option.bind_some]
    have no : ∃ b, (some false : Option Bool) = some b ∧ (b = true → ∀ x ∈ r :: l, Br x) := ⟨false, rfl, fun h => by cases h⟩
    cases h1 : decide ((r.f1_Keep.length : Int) > 3) with
    | true => exact no
    | false =>
    cases h2 : decide ((r.f2_Remove.length : Int) > 3) with
    | true => exact no
    | false =>
    cases decide (wr ((r.f1_Keep.length : Int) + (r.f2_Remove.length : Int)) > 3) with
    | true => exact no
    | false =>
    cases decide ((r.f3_Guard.length : Int) > 6) with
    | true => exact no
    | false =>
    cases h5 : decide ((r.f4_Body.length : Int) > 6) with
    | true => exact no
    | false =>
    cases b1 with
    | false => exact no
    | true =>
    cases b2 with
    | false => exact no
    | true =>
    cases b3 with
    | false => exact no
    | true =>
    cases b4 with
    | false => exact no
    | true =>
    refine ⟨b, e1, fun hb x hx => ?_⟩
    rcases List.mem_cons.1 hx with rfl | hx
    · have g1 := of_decide_eq_false h1
      have g2 := of_decide_eq_false h2
      have g5 := of_decide_eq_false h5
      exact ⟨by omega, by omega, by omega, hw.wk, hw.wr, hw.wb⟩
    · exact e2 hb x hx
theorem programs_lf (p : S_api_Program) (h : ∀ r ∈ p.f1_Rules, Wr r) : ∃ b, lf_constraintlaw23_Programs p = some b ∧ (b = true → p.f0_Decls.length ≤ 12 ∧ RBr p) := by
  rw [lf_constraintlaw23_Programs]
  have no : ∃ b, (some false : Option Bool) = some b ∧ (b = true → p.f0_Decls.length ≤ 12 ∧ RBr p) := ⟨false, rfl, fun h => by cases h⟩
  cases h1 : decide ((p.f0_Decls.length : Int) > 12) with
  | true => exact no
  | false =>
  cases decide ((p.f1_Rules.length : Int) > 8) with
  | true => exact no
  | false =>
    obtain ⟨b, e1, e2⟩ := programs_L0 p.f1_Rules h
    have g1 := of_decide_eq_false h1
    exact ⟨b, e1, fun hb => ⟨by omega, e2 hb⟩⟩
theorem size_L0 : ∀ (ds : List S_api_Decl) (n : Int) (i : Nat), i + ds.length ≤ 12 → ∃ m, lf_constraintlaw42_size_L0 (fun n_3 => some n_3) ds n i = some m ∧ (ds.all okD = true → m = ds.foldl (fun n d => wr (wr (n + 1) + d.f1_Arity)) n)
  | [], n, i, _ => ⟨n, by rw [lf_constraintlaw42_size_L0], fun _ => rfl⟩
  | d :: ds, n, i, h => by
    simp only [List.length_cons] at h
    rw [lf_constraintlaw42_size_L0, decide_eq_true (by omega)]
    simp only [cond_true, List.all_cons, okD, List.foldl_cons]
    cases decide (d.f1_Arity > 6) with
    | true =>
      obtain ⟨m, e, _⟩ := size_L0 ds n (i + 1) (by omega)
      exact ⟨m, e, fun h => by simp at h⟩
    | false =>
      cases decide (d.f1_Arity < 0) with
      | true =>
        obtain ⟨m, e, _⟩ := size_L0 ds n (i + 1) (by omega)
        exact ⟨m, e, fun h => by simp at h⟩
      | false =>
        obtain ⟨m, e, h⟩ := size_L0 ds (wr (wr (n + 1) + d.f1_Arity)) (i + 1) (by omega)
        exact ⟨m, e, fun h2 => h (by simpa using h2)⟩
theorem size_lf (ds : List S_api_Decl) (h : ds.length ≤ 12) : ∃ m, lf_constraintlaw42_size ds = some m ∧ (ds.all okD = true → m = ds.foldl (fun n d => wr (wr (n + 1) + d.f1_Arity)) 0) := by
  rw [lf_constraintlaw42_size]
  exact size_L0 ds 0 0 (by omega)
theorem light_lf (p : S_api_Program) (h : ∀ r ∈ p.f1_Rules, Wr r) (most : Int) : ∃ b, lf_constraintlaw42_light p most = some b ∧ (b = true → p.f0_Decls.length ≤ 12 ∧ RBr p) := by
  obtain ⟨b, e1, e2⟩ := programs_lf p h
  rw [lf_constraintlaw42_light, e1]
  simp only [Option.bind_some]
  cases b with
  | false => exact ⟨false, rfl, fun h => by cases h⟩
  | true =>
    obtain ⟨h12, hbr⟩ := e2 rfl
    obtain ⟨m, e, _⟩ := size_lf p.f0_Decls h12
    rw [e]
    simp only [cond_true, Option.bind_some]
    have : ∀ (x : Option Bool), (∃ b, x = some b) → ∃ b, x = some b ∧ (b = true → p.f0_Decls.length ≤ 12 ∧ RBr p) := fun x ⟨b, hb⟩ => ⟨b, hb, fun _ => ⟨h12, hbr⟩⟩
    refine this _ ?_
    cases decide (m ≤ 4) <;> cases decide (most ≤ 3) <;> cases decide (m ≤ 6) <;> cases decide (most ≤ 1) <;> cases decide (m > 8) <;> exact ⟨_, rfl⟩
/-- What the reference's search comes to. -/
theorem find_some (fuel : Nat) (hf : 1048597 ≤ fuel) (most : Int) (p : S_api_Program) (hr : RBr p) (hd : p.f0_Decls.length ≤ 12) :
    lf_constraintref42_Find fuel p most = some ([], 2) ∨ lf_constraintref42_Find fuel p most = some ([], 6) ∨ ∃ n : Nat, 1 ≤ most ∧ most ≤ 3 ∧ n ≤ 8 ∧ p.f0_Decls.all okD = true ∧ ((n : Nat) : Int) = p.f0_Decls.foldl (fun n d => wr (wr (n + 1) + d.f1_Arity)) 0 ∧ lf_constraintref42_Find fuel p most = lf_constraintref42_Find_L1 (some ([], 13)) fuel most p fuel (List.replicate n 0) true := by
  rw [lf_constraintref42_Find]
  rcases count_L (fun n_3 =>
    (bif (decide (n_3 > (8 : Int))) then some ([], 6) else
    (bif (decide (most < (1 : Int))) then some ([], 6) else
    (bif (decide (most > (3 : Int))) then some ([], 6) else
    ((makeO 8 n_3).bind fun n_7 =>
    (lf_constraintref42_Find_L1 (some ([], 13)) fuel most p fuel (List.replicate n_7 0) true)))))) p.f0_Decls 0 with ⟨hok, m, h1, h2, h3⟩ | ⟨_, h1, h2⟩
  · rw [h2]
    cases h8 : decide (m > 8) with
    | true => exact .inr (.inl rfl)
    | false =>
      cases ha : decide (most < 1) with
      | true => exact .inr (.inl rfl)
      | false =>
        cases hb : decide (most > 3) with
        | true => exact .inr (.inl rfl)
        | false =>
          have g8 := of_decide_eq_false h8
          have ga := of_decide_eq_false ha
          have gb := of_decide_eq_false hb
          have h0 : 0 ≤ m := by
            have : ∀ (ds : List S_api_Decl) (n : Int), ds.all okD = true → 0 ≤ n → n + 7 * ds.length ≤ 1000000 → 0 ≤ ds.foldl (fun n d => wr (wr (n + 1) + d.f1_Arity)) n := by
              intro ds
              induction ds with
              | nil => intro n _ h _; exact h
              | cons d ds ih =>
                intro n hk hn hl
                simp only [List.all_cons, okD, Bool.and_eq_true, Bool.not_eq_true', decide_eq_false_iff_not, List.length_cons] at hk hl
                simp only [List.foldl_cons]
                refine ih _ hk.2 ?_ ?_
                · rw [show wr (n + 1) = n + 1 from wr_eq (by omega), wr_eq (by omega)]; omega
                · rw [show wr (n + 1) = n + 1 from wr_eq (by omega), wr_eq (by omega)]; omega
            rw [h3]
            exact this _ _ hok (by omega) (by omega)
          refine .inr (.inr ⟨m.toNat, by omega, by omega, by omega, hok, by rw [← h3]; omega, ?_⟩)
          simp only [cond_false]
          rw [makeO, if_pos (by omega)]
          rfl
  · exact .inl h2
theorem search0 (fuel : Nat) (hf : 1048597 ≤ fuel) (most : Int) (h1 : 1 ≤ most) (h3 : most ≤ 3) (p : S_api_Program) (hr : RBr p) (hd : p.f0_Decls.length ≤ 12) (n : Nat) (hn : n ≤ 8) :
    ∃ r, lf_constraintref42_Find_L1 (some ([], 13)) fuel most p fuel (List.replicate n 0) true = some r ∧ ((r.2 = 0 ∧ lf_rank_Check fuel p r.1 = some 0) ∨ r = ([], 13)) ∧
      ∀ (k : Option Bool), lf_constraintlaw42_exampleHolds fuel = some true → (r = ([], 13) → k = some true) → ∀ n2, fuel ≤ n2 → lf_constraintlaw42_TerminateFirst_L0 k fuel most p r n2 (List.replicate n 0) true = some true :=
  search fuel (by omega) most (by omega) (by omega) p hr (by omega) fuel (List.replicate n 0) (inR_zero (by omega) n) (by simp; omega) (by
    rw [valD_zero, List.length_replicate]
    have : (most.toNat + 1) ^ n ≤ 65536 := Nat.le_trans (Nat.pow_le_pow_left (show most.toNat + 1 ≤ 4 by omega) _) (Nat.pow_le_pow_right (by omega) hn)
    omega)
theorem finds_lf (p : S_api_Program) (h : ∀ r ∈ p.f1_Rules, Wr r) (most : Int) : lf_constraintlaw42_TerminateFinds 1048597 p most = some true := by
  obtain ⟨b, e1, e2⟩ := light_lf p h most
  rw [lf_constraintlaw42_TerminateFinds, e1, examples_lf]
  simp only [Option.bind_some]
  cases b with
  | false => rfl
  | true =>
    obtain ⟨h12, hr⟩ := e2 rfl
    rw [find_eq 1048597 (by omega) most p hr (by omega)]
    obtain ⟨r, hres⟩ : ∃ r, lf_constraintref42_Find 1048597 p most = some r := by
      rcases find_some 1048597 (by omega) most p hr h12 with g | g | ⟨n, g1, g3, gn, _, _, g⟩
      · exact ⟨_, g⟩
      · exact ⟨_, g⟩
      · obtain ⟨r, q, _⟩ := search0 1048597 (by omega) most g1 g3 p hr h12 n gn
        exact ⟨r, g.trans q⟩
    rw [hres]
    simp [same_refl]
theorem first_lf (p : S_api_Program) (h : ∀ r ∈ p.f1_Rules, Wr r) (most : Int) : lf_constraintlaw42_TerminateFirst 1048597 p most = some true := by
  obtain ⟨b, e1, e2⟩ := light_lf p h most
  rw [lf_constraintlaw42_TerminateFirst, e1, examples_lf]
  simp only [Option.bind_some]
  cases b with
  | false => rfl
  | true =>
    obtain ⟨h12, hr⟩ := e2 rfl
    obtain ⟨m, s1, s2⟩ := size_lf p.f0_Decls h12
    rw [s1, find_eq 1048597 (by omega) most p hr (by omega)]
    simp only [Bool.not_true, cond_false, Option.bind_some]
    cases decide (m > 6) with
    | true => rfl
    | false =>
    cases decide (most < 1) with
    | true => rfl
    | false =>
    cases decide (most > 3) with
    | true => rfl
    | false =>
    simp only [cond_false]
    rcases find_some 1048597 (by omega) most p hr h12 with g | g | ⟨n, g1, g3, gn, gok, gm, g⟩
    · rw [g]; rfl
    · rw [g]; rfl
    · obtain ⟨r, q1, q2, q3⟩ := search0 1048597 (by omega) most g1 g3 p hr h12 n gn
      rw [g, q1]
      have hm : m = (n : Int) := by rw [s2 gok, gm]
      have h2 : (r.2 == 2) = false ∧ (r.2 == 6) = false := by
        rcases q2 with ⟨e, _⟩ | e
        · rw [e]; exact ⟨rfl, rfl⟩
        · rw [e]; exact ⟨rfl, rfl⟩
      simp only [Option.bind_some, h2.1, h2.2, cond_false]
      rw [hm, makeO, if_pos (by omega)]
      simp only [Option.bind_some, Int.toNat_natCast]
      have hk := q3 (bif (r.2 == (13 : Int)) then (bif ((r.1.length : Int) == (0 : Int)) then ((some true : Option Bool).bind fun r_24 => some (r_24)) else some (false)) else some (false)) examples_lf (fun e => by rw [e]; rfl) 1048597 (Nat.le_refl _)
      rw [lf_constraintlaw42_TerminateFirst_J0]
      simp only [Option.bind_some] at hk ⊢
      rw [hk]
      rcases q2 with ⟨e, c⟩ | e
      · rw [e, c]; rfl
      · rw [e]; rfl
theorem gives_TerminateFinds (p : S_api_Program) (most : Int) (h : ∀ r ∈ p.f1_Rules, Wr r) : Gives Try.prog 3 [enc_S_api_Program p, .int .i64 most] (.bool true) :=
  lg_constraintlaw42_TerminateFinds 1048597 p most true (finds_lf p h most)
theorem gives_TerminateFirst (p : S_api_Program) (most : Int) (h : ∀ r ∈ p.f1_Rules, Wr r) : Gives Try.prog 6 [enc_S_api_Program p, .int .i64 most] (.bool true) :=
  lg_constraintlaw42_TerminateFirst 1048597 p most true (first_lf p h most)
end Go.Proofs.Ythcgefbigimgoaa


namespace Go.Proofs.Ythcgefbigimgoaa
set_option maxRecDepth 100000
open Go.ChangeShapes Go.WideShapes Go.ChangeAt Go.RowKit

/-- Every cell that there is. -/
def live (w : World) (a : Addr) : Prop := ∃ v, w.cell? a = some v
theorem live_grow {w w' : World} (e : Ext w w') : Grow (live w) w (live w') w' := fun _ ⟨v, hv⟩ => ⟨⟨v, e.cellOf hv⟩, by rw [hv]; exact e.cellOf hv⟩
/-- A datum of a type, opened. -/
def Op (t : TypeId) (n : Nat) (S : D → Prop) : Prop := ∀ (H : Type) (enc : TypeId × Value → H) (W : World) (base : Nat) (sp : Nat → Bool) (hd : Bool) (fuel : Nat) (cs : List Value) (x : DataW H × List MemPlace),
  DataW.trod enc Try.prog W base sp hd fuel t cs = some x → ∃ d v, S d ∧ d.plain = true ∧ sz d = n ∧ Rep (live W) W d v ∧ cs = v.cells.toList
theorem Op.to {t : TypeId} {n : Nat} {S S' : D → Prop} (h : Op t n S) (k : ∀ d, S d → S' d) : Op t n S' := fun H enc W base sp hd fuel cs x hx => by
  obtain ⟨d, v, h1, h2⟩ := h H enc W base sp hd fuel cs x hx
  exact ⟨d, v, k d h1, h2⟩
theorem op_i64 {t : TypeId} (ht : (Try.prog).underlying t = some (.int .i64)) : Op t 1 fun d => ∃ n, d = .int .i64 n := fun H enc W base sp hd fuel cs x hx => by
  obtain ⟨k, rfl, _, w0⟩ := DataW.trod_int ht hx
  have := i64_of w0
  refine ⟨.int .i64 k, .int .i64 k, ⟨k, rfl⟩, rfl, rfl, ?_, by simp [Value.cells]⟩
  simp only [Rep]
  exact ⟨trivial, wrap64 (by unfold I64 at this; omega)⟩
theorem op_str {t : TypeId} (ht : (Try.prog).underlying t = some .string) : Op t 1 fun d => ∃ s, d = .str s := fun H enc W base sp hd fuel cs x hx => by
  obtain ⟨s, rfl, _, w0⟩ := DataW.trod_string ht hx
  refine ⟨.str s, .string s, ⟨s, rfl⟩, rfl, rfl, ?_, by simp [Value.cells]⟩
  simp only [Rep]
  exact ⟨trivial, by unfold maxLen at w0; omega⟩
/-- One predicate a field. -/
def Fits : List (D → Prop) → List D → Prop
  | [], [] => True
  | S :: ss, d :: ds => S d ∧ Fits ss ds
  | _, _ => False
/-- Fields, one behind the other, from an offset to the end. -/
def tight (P : Program) : Nat → List Field → Bool
  | _, [] => true
  | o, f :: fs => f.offset == o && tight P (o + P.cellsOf f.type) fs
theorem reps_ones {p : Addr → Prop} {w : World} : ∀ {ds : List D} {cs : List Value}, Reps p w ds cs → (∀ d ∈ ds, d.plain = true) → ∀ u ∈ cs, u.oneCell' = true
  | [], cs, h, _, u, hu => by simp only [Reps] at h; subst h; simp at hu
  | d :: ds, cs, h, hp, u, hu => by
    simp only [Reps] at h
    obtain ⟨v, rest, rfl, h1, h2⟩ := h
    rcases List.mem_append.1 hu with hu | hu
    · exact h1.one (hp d (List.mem_cons_self ..)) u hu
    · exact reps_ones h2 (fun e he => hp e (List.mem_cons_of_mem _ he)) u hu
def total (P : Program) : List Field → Nat
  | [] => 0
  | f :: fs => P.cellsOf f.type + total P fs
def Ops : List Field → List (D → Prop) → Prop
  | [], [] => True
  | f :: fs, S :: ss => Op f.type ((Try.prog).cellsOf f.type) S ∧ Ops fs ss
  | _, _ => False
theorem fields_open {H : Type} {enc : TypeId × Value → H} {W : World} {base : Nat} {sp : Nat → Bool} {hd : Bool} {n : Nat} {cs : List Value} :
    ∀ (fs : List Field) (ss : List (D → Prop)) (o : Nat), Ops fs ss → tight Try.prog o fs = true → o + total Try.prog fs = cs.length →
      (∀ (i : Nat) (f : Field), fs[i]? = some f → ∃ x, DataW.trod enc Try.prog W base sp hd n f.type ((cs.drop f.offset).take ((Try.prog).cellsOf f.type)) = some x) →
      ∃ ds, Fits ss ds ∧ (∀ d ∈ ds, d.plain = true) ∧ szs ds = total Try.prog fs ∧ Reps (live W) W ds (cs.drop o)
  | [], [], o, _, _, hl, _ => ⟨[], trivial, by simp, rfl, by simp only [total] at hl; rw [List.drop_eq_nil_of_le (by omega)]; exact Reps.nil _ _⟩
  | f :: fs, S :: ss, o, hop, ht, hl, hx => by
    simp only [tight, Bool.and_eq_true, beq_iff_eq] at ht
    simp only [total] at hl
    obtain ⟨ds, h1, h2, h3, h4⟩ := fields_open fs ss (o + (Try.prog).cellsOf f.type) hop.2 ht.2 (by omega) fun i g hg => hx (i + 1) g hg
    obtain ⟨x, h5⟩ := hx 0 f rfl
    rw [ht.1] at h5
    obtain ⟨d, v, g1, g2, g3, g4, g5⟩ := hop.1 H enc W base sp hd n _ x h5
    refine ⟨d :: ds, ⟨g1, h1⟩, ?_, by simp only [szs, total, g3, h3], ?_⟩
    · intro e he
      rcases List.mem_cons.1 he with rfl | he
      · exact g2
      · exact h2 e he
    · have := Reps.cons g4 h4
      rw [← g5, ← List.drop_drop, List.take_append_drop] at this
      exact this
  | [], _ :: _, _, h, _, _, _ => h.elim
  | _ :: _, [], _, h, _, _, _ => h.elim
theorem op_struct {t : TypeId} {fs : Array Field} {n : Nat} (ht : (Try.prog).underlying t = some (.struct fs)) (ss : List (D → Prop)) (hs : Ops fs.toList ss) (h1 : tight Try.prog 0 fs.toList = true) (h2 : total Try.prog fs.toList = n) (h3 : (Try.prog).cellsOf t = n) :
    Op t n fun d => ∃ ds, d = .agg ds ∧ Fits ss ds := fun H enc W base sp hd fuel cs x hx => by
  obtain ⟨xs, m, _, _, hl, hlen, hf⟩ := DataW.trod_struct ht hx
  obtain ⟨ds, g1, g2, g3, g4⟩ := fields_open (enc := enc) (W := W) (base := base) (sp := sp) (hd := hd) (n := m) (cs := cs) fs.toList ss 0 hs h1 (by omega) fun i f hi => by
    have hi' : fs[i]? = some f := by simpa using hi
    have hlt : i < xs.length := by
      have := (Array.getElem?_eq_some_iff.1 hi').1
      omega
    exact ⟨xs[i], by rw [hf i f hi', List.getElem?_eq_getElem hlt]⟩
  refine ⟨.agg ds, .agg cs.toArray, ⟨ds, rfl, g1⟩, rfl, by simp only [sz]; omega, ?_, by simp [Value.cells]⟩
  simp only [Rep]
  rw [List.drop_zero] at g4
  exact ⟨cs, rfl, g4, reps_ones g4 g2⟩
/-- Data of one size as a layout. -/
def layD (n : Nat) (hn : 0 < n) (S : D → Prop) : Lay D where
  C := fun w d cs => S d ∧ d.plain = true ∧ sz d = n ∧ ∃ v, Rep (live w) w d v ∧ cs = v.cells.toList
  n := n
  pos := hn
  ext := fun ⟨h1, h2, h3, v, h4, h5⟩ e => ⟨h1, h2, h3, v, h4.grow (live_grow e), h5⟩
  len := fun ⟨_, _, h3, v, h4, h5⟩ => by rw [h5, ← h3, ← h4.sz]; simp
  one := fun ⟨_, h2, _, v, h4, h5⟩ u hu => by subst h5; exact h4.one h2 u hu
theorem layD_ls {n : Nat} {hn : 0 < n} {S : D → Prop} {w : World} : ∀ {l : List D} {xs : List Value}, (layD n hn S).Ls w l xs → (∀ d ∈ l, S d ∧ d.plain = true) ∧ Reps (live w) w l xs
  | [], xs, h => by
    have h : xs = [] := h
    subst h
    exact ⟨by simp, Reps.nil _ _⟩
  | d :: l, xs, ⟨cs, ys, h1, ⟨g1, g2, _, v, g4, g5⟩, h3⟩ => by
    obtain ⟨k1, k2⟩ := layD_ls h3
    subst h1 g5
    refine ⟨?_, Reps.cons g4 k2⟩
    intro e he
    rcases List.mem_cons.1 he with rfl | he
    · exact ⟨g1, g2⟩
    · exact k1 e he
theorem rd_live {w : World} {A : Option Addr} {xs : List Value} (h : Rd w A xs) : RdP (live w) w A xs := by
  rcases h with h | ⟨ad, rfl, hc⟩
  · exact .inl h
  · by_cases he : xs = []
    · exact .inl he
    · have hlen : 0 < xs.length := List.length_pos_iff.2 he
      have hsp : ad.spot = none := by
        have := cell_spot (hc 0 _ (List.getElem?_eq_getElem hlen))
        simpa [Addr.add] using this
      obtain ⟨b, o, sp⟩ := ad
      simp only at hsp
      subst hsp
      refine .inr ⟨b, o, rfl, fun j u hu => ?_⟩
      have h1 : w.cell? ⟨b, o + j, none⟩ = some u := by have := hc j u hu; rwa [add_flat] at this
      exact ⟨⟨u, h1⟩, h1⟩
theorem op_slice {t e : TypeId} {n : Nat} {S : D → Prop} (ht : (Try.prog).underlying t = some (.slice e)) (hn : (Try.prog).cellsOf e = n) (hp : 0 < n) (he : Op e n S) : Op t 1 fun d => ∃ l, d = .lst l ∧ ∀ x ∈ l, S x := fun H enc W base sp hd fuel cs x hx => by
  obtain ⟨l, v, rfl, h1⟩ := Lay.open_sl (L := layD n hp S) ht hn (fun m cs x _ h => by
    obtain ⟨d, v, g1, g2, g3, g4, g5⟩ := he H enc W base sp hd m cs x h
    exact ⟨d, g1, g2, g3, v, g4, g5⟩) hx
  obtain ⟨A, c, xs, rfl, h2, h3, h4, h5⟩ := h1
  obtain ⟨h6, h7⟩ := layD_ls h5
  refine ⟨.lst l, .slice A l.length c, ⟨l, rfl, fun d hd => (h6 d hd).1⟩, rfl, rfl, ?_, by simp [Value.cells]⟩
  simp only [Rep]
  exact ⟨A, c, xs, rfl, h2, h3, rd_live h4, h7, reps_ones h7 fun d hd => (h6 d hd).2⟩
/-- A list of data that all show something is the list of what they show. -/
theorem list_img {α : Type} {f : α → D} : ∀ {l : List D}, (∀ x ∈ l, ∃ a, x = f a) → ∃ av : List α, l = av.map f
  | [], _ => ⟨[], rfl⟩
  | d :: l, h => by
    obtain ⟨a, rfl⟩ := h d (List.mem_cons_self ..)
    obtain ⟨av, rfl⟩ := list_img fun x hx => h x (List.mem_cons_of_mem _ hx)
    exact ⟨a :: av, rfl⟩
theorem op_list {α : Type} {f : α → D} {t e : TypeId} {n : Nat} (ht : (Try.prog).underlying t = some (.slice e)) (hn : (Try.prog).cellsOf e = n) (hp : 0 < n) (he : Op e n fun d => ∃ a, d = f a) : Op t 1 fun d => ∃ av : List α, d = .lst (av.map f) :=
  (op_slice ht hn hp he).to fun d ⟨l, hl, h⟩ => by
    obtain ⟨av, rfl⟩ := list_img h
    exact ⟨av, hl⟩

/-! ### terms -/
mutual
theorem rep_ct {w : World} : ∀ {t : T} {cs : List Value}, CT w t cs → Reps (live w) w (fsT t) cs
  | .mk k i s ar, cs, h => by
    simp only [CT] at h
    obtain ⟨A, c, xs, rfl, ⟨h1, h2, h3, h4, h5⟩, h6, h7⟩ := h
    have g := rep_cl h7
    simp only [fsT, Reps, Rep]
    refine ⟨.int .i64 k, _, by simp [Value.cells]; rfl, ⟨rfl, wrap64 (by unfold I64 at h1; omega)⟩, .int .i64 i, _, by simp [Value.cells]; rfl, ⟨rfl, wrap64 (by unfold I64 at h2; omega)⟩, .string s, _, by simp [Value.cells]; rfl, ⟨rfl, h3⟩, .slice A ar.length c, _, by simp [Value.cells], ⟨A, c, xs, ?_, ?_, h5, rd_live h6, g, reps_ones g ?_⟩, rfl⟩
    · rw [encTs_eq]; simp
    · rw [encTs_eq]; simpa using h4
    · rw [encTs_eq]
      intro d hd
      obtain ⟨t, _, rfl⟩ := List.mem_map.1 hd
      rfl
theorem rep_cl {w : World} : ∀ {ts : List T} {xs : List Value}, CL w ts xs → Reps (live w) w (encTs ts) xs
  | [], xs, h => by
    simp only [CL] at h
    subst h
    simp only [encTs, Reps]
  | t :: ts, xs, h => by
    simp only [CL] at h
    obtain ⟨cs, ys, rfl, h1, h2⟩ := h
    have g := rep_ct h1
    simp only [encTs, Reps]
    refine ⟨.agg cs.toArray, ys, by simp [Value.cells], ?_, rep_cl h2⟩
    simp only [Rep]
    exact ⟨cs, rfl, g, reps_ones g fun d hd => by
      rw [fsT_eq] at hd
      simp only [List.mem_cons, List.not_mem_nil, or_false] at hd
      rcases hd with rfl | rfl | rfl | rfl <;> rfl⟩
end
theorem op_term : Op 45 4 fun d => ∃ t, d = encT t := fun H enc W base sp hd fuel cs x hx => by
  obtain ⟨t, ht⟩ := open_termF fuel cs x hx
  have g := rep_ct ht
  refine ⟨encT t, .agg cs.toArray, ⟨t, rfl⟩, rfl, sz_encT t, ?_, by simp [Value.cells]⟩
  simp only [Rep]
  exact ⟨cs, rfl, g, reps_ones g fun d hd => by
    rw [fsT_eq] at hd
    simp only [List.mem_cons, List.not_mem_nil, or_false] at hd
    rcases hd with rfl | rfl | rfl | rfl <;> rfl⟩
theorem op_terms : Op 43 1 fun d => ∃ l : List T, d = .lst (l.map encT) := op_list Try.underlying43 cells_term (by omega) op_term
theorem op_goal : Op 73 3 fun d => ∃ g, d = encG g :=
  (op_struct Try.underlying73 [fun d => ∃ n, d = .int .i64 n, fun d => ∃ s, d = .str s, fun d => ∃ l : List T, d = .lst (l.map encT)] ⟨op_i64 Try.underlying3, op_str Try.underlying9, op_terms, trivial⟩ (by kernel_rfl) (by kernel_rfl) cells_goal).to fun d ⟨ds, hd, h⟩ => by
    match ds, h with
    | [_, _, _], ⟨⟨n, rfl⟩, ⟨s, rfl⟩, ⟨l, rfl⟩, _⟩ => exact ⟨⟨n, s, l⟩, hd⟩
theorem op_ints : Op 33 1 fun d => ∃ l, d = encI l := op_list (f := fun n => .int .i64 n) Try.underlying33 cells_int (by omega) (op_i64 Try.underlying3)

/-! ### a law's arguments -/
/-- The value has the shape of its data. -/
def Cl (t : TypeId) (S : D → Prop) : Prop := ∀ (W : World) (b : Nat) (v : Value), Value.okWide Try.prog W .any b t v → ∀ d, S d → v = reval d v.cells.toList
theorem Cl.to {t : TypeId} {S S' : D → Prop} (h : Cl t S') (k : ∀ d, S d → S' d) : Cl t S := fun W b v hv d hd => h W b v hv d (k d hd)
theorem cl_struct {t : TypeId} {fs : Array Field} (ht : (Try.prog).underlying t = some (.struct fs)) : Cl t fun d => ∃ ds, d = .agg ds := fun W b v hv d ⟨ds, hd⟩ => by
  obtain ⟨cs, rfl, _⟩ := okWide_struct ht hv
  subst hd
  simp [Value.cells, reval]
theorem cl_slice {t e : TypeId} (ht : (Try.prog).underlying t = some (.slice e)) : Cl t fun d => ∃ l, d = .lst l := fun W b v hv d ⟨l, hd⟩ => by
  obtain ⟨a, n, c, rfl⟩ := okWide_slice ht hv
  subst hd
  simp [Value.cells, reval]
theorem cl_i64 {t : TypeId} (ht : (Try.prog).underlying t = some (.int .i64)) : Cl t fun d => ∃ n, d = .int .i64 n := fun W b v hv d ⟨n, hd⟩ => by
  obtain ⟨m, rfl⟩ := okWide_int ht hv
  subst hd
  simp [Value.cells, reval]
structure Arg where
  t : TypeId
  n : Nat
  S : D → Prop
  op : Op t n S
  cl : Cl t S
def aInts : Arg := ⟨_, _, _, op_ints, (cl_slice Try.underlying33).to fun _ ⟨_, h⟩ => ⟨_, h⟩⟩
def aInt : Arg := ⟨_, _, _, op_i64 Try.underlying3, cl_i64 Try.underlying3⟩
theorem args_open {H : Type} {enc : TypeId × Value → H} {W : World} {base b : Nat} {sp : Nat → Bool} {hd : Bool} : ∀ (av : List Arg) (vs : List Value) (ds : List (DataW H)) (ps : List MemPlace),
    DataW.TrodAll enc Try.prog W base sp hd (av.map Arg.t) vs ds ps → (∀ (j : Nat) t v, (av.map Arg.t)[j]? = some t → vs[j]? = some v → Value.okWide Try.prog W .any b t v) → ∃ es, Fits (av.map Arg.S) es ∧ Repl (live W) W es vs
  | [], vs, ds, ps, h, _ => by
    obtain ⟨rfl, _, _⟩ := trodAll_nil h
    exact ⟨[], trivial, Repl.nil _ _⟩
  | a :: av, vs, ds, ps, h, hv => by
    obtain ⟨v, vs', d, ds', p, q, rfl, rfl, rfl, ⟨fuel, h1⟩, h2⟩ := trodAll_cons h
    obtain ⟨es, g1, g2⟩ := args_open av vs' ds' q h2 fun j t u ht hu => hv (j + 1) t u ht hu
    obtain ⟨e, u, k1, k2, k3, k4, k5⟩ := a.op H enc W base sp hd fuel _ _ h1
    have e1 := a.cl W b v (hv 0 a.t v rfl rfl) e k1
    have e2 := k4.back
    rw [← k5] at e2
    rw [← e2] at e1
    subst e1
    exact ⟨e :: es, ⟨k1, g1⟩, Repl.cons k4 g2⟩
theorem holds_of {k : FuncId} {F : Func} (av : List Arg) (hp : F.params.toList = av.map Arg.t) (hg : ∀ es, Fits (av.map Arg.S) es → Gives Try.prog k es (.bool true)) : Holds k F := by
  intro H enc W base args ds p hval hA
  rw [hp] at hA
  obtain ⟨es, h1, h2⟩ := args_open (b := base) av args.toList ds p hA fun j t v ht hv => hval j t v (by rw [← Array.getElem?_toList, hp]; exact ht) (by simpa using hv)
  have hI : Inv (ctx W (live W) []) (live W) [] W := ⟨by simp, by simp [blks], by simp [blks], fun a ha => ha, Grow.refl _ _, fun a ha => .inl ha, rfl, rfl, rfl, Nat.le_refl _, fun b _ _ => rfl⟩
  refine (hg es h1 W (live W) args.toList hI h2).mono ?_
  rintro e w' (⟨v, d, σ, q, rfl, rfl, hr, hi⟩ | ⟨_, _, _, _, _, hx, _⟩)
  rotate_left
  · exact hx.elim
  simp only [Rep] at hr
  subst hr
  exact Ret.mk rfl ⟨hi.os, hi.tape, hi.output, hi.size, fun b hb => hi.block b hb (by simp [ctx, blks])⟩
end Go.Proofs.Ythcgefbigimgoaa


namespace Go.Proofs.Ythcgefbigimgoaa
set_option maxRecDepth 100000
open Go.ChangeShapes Go.WideShapes Go.ChangeAt Go.RowKit

theorem op_u8 {t : TypeId} (ht : (Try.prog).underlying t = some (.int .u8)) : Op t 1 fun d => ∃ n, d = .int .u8 n ∧ 0 ≤ n ∧ n ≤ 255 := fun H enc W base sp hd fuel cs x hx => by
  obtain ⟨k, rfl, _, w0⟩ := DataW.trod_int ht hx
  have hk : 0 ≤ k ∧ k ≤ 255 := by
    have w1 := w0
    simp [Lit.wf, IntKind.min, IntKind.max, IntKind.signed, IntKind.bits] at w1
    omega
  refine ⟨.int .u8 k, .int .u8 k, ⟨k, rfl, hk⟩, rfl, rfl, ?_, by simp [Value.cells]⟩
  simp only [Rep]
  exact ⟨trivial, by simp only [IntKind.wrap, IntKind.bits, IntKind.signed]; simp; omega⟩
theorem cl_u8 {t : TypeId} (ht : (Try.prog).underlying t = some (.int .u8)) : Cl t fun d => ∃ n, d = .int .u8 n := fun W b v hv d ⟨n, hd⟩ => by
  obtain ⟨m, rfl⟩ := okWide_int ht hv
  subst hd
  simp [Value.cells, reval]
theorem op_atom : Op 71 2 fun d => ∃ a, d = encA a :=
  (op_struct Try.underlying71 [fun d => ∃ s, d = .str s, fun d => ∃ l : List T, d = .lst (l.map encT)] ⟨op_str Try.underlying9, op_terms, trivial⟩ (by kernel_rfl) (by kernel_rfl) (by kernel_rfl)).to fun d ⟨ds, hd, h⟩ => by
    match ds, h with
    | [_, _], ⟨⟨s, rfl⟩, ⟨l, rfl⟩, _⟩ => exact ⟨⟨s, l⟩, hd⟩
theorem op_atoms : Op 47 1 fun d => ∃ l : List At, d = .lst (l.map encA) := op_list Try.underlying47 (by kernel_rfl) (by omega) op_atom
theorem op_goals : Op 48 1 fun d => ∃ l : List Gl, d = .lst (l.map encG) := op_list Try.underlying48 cells_goal (by omega) op_goal
theorem op_rank : Op 56 3 fun d => ∃ r, d = enc_S_api_Rank r :=
  (op_struct Try.underlying56 [fun d => ∃ s, d = .str s, fun d => ∃ n, d = .int .i64 n, fun d => ∃ l : List Int, d = .lst (l.map (D.int .i64))] ⟨op_str Try.underlying9, op_i64 Try.underlying3, op_ints, trivial⟩ (by kernel_rfl) (by kernel_rfl) (by kernel_rfl)).to fun d ⟨ds, hd, h⟩ => by
    match ds, h with
    | [_, _, _], ⟨⟨s, rfl⟩, ⟨n, rfl⟩, ⟨l, rfl⟩, _⟩ => exact ⟨⟨s, n, l⟩, hd⟩
theorem op_ranks : Op 28 1 fun d => ∃ l : List S_api_Rank, d = .lst (l.map enc_S_api_Rank) := op_list Try.underlying28 (by kernel_rfl) (by omega) op_rank
theorem op_rule : Op 50 6 fun d => ∃ r, d = enc_S_api_Rule r :=
  (op_struct Try.underlying50 [fun d => ∃ s, d = .str s, fun d => ∃ l : List At, d = .lst (l.map encA), fun d => ∃ l : List At, d = .lst (l.map encA), fun d => ∃ l : List Gl, d = .lst (l.map encG), fun d => ∃ l : List Gl, d = .lst (l.map encG), fun d => ∃ n, d = .int .i64 n] ⟨op_str Try.underlying9, op_atoms, op_atoms, op_goals, op_goals, op_i64 Try.underlying3, trivial⟩ (by kernel_rfl) (by kernel_rfl) (by kernel_rfl)).to fun d ⟨ds, hd, h⟩ => by
    match ds, h with
    | [_, _, _, _, _, _], ⟨⟨s, rfl⟩, ⟨a, rfl⟩, ⟨b, rfl⟩, ⟨c, rfl⟩, ⟨e, rfl⟩, ⟨n, rfl⟩, _⟩ => exact ⟨⟨s, a, b, c, e, n⟩, hd⟩
theorem op_rules : Op 23 1 fun d => ∃ l : List S_api_Rule, d = .lst (l.map enc_S_api_Rule) := op_list Try.underlying23 (by kernel_rfl) (by omega) op_rule
theorem op_decl : Op 54 2 fun d => ∃ q, d = enc_S_api_Decl q :=
  (op_struct Try.underlying54 [fun d => ∃ s, d = .str s, fun d => ∃ n, d = .int .i64 n] ⟨op_str Try.underlying9, op_i64 Try.underlying3, trivial⟩ (by kernel_rfl) (by kernel_rfl) (by kernel_rfl)).to fun d ⟨ds, hd, h⟩ => by
    match ds, h with
    | [_, _], ⟨⟨s, rfl⟩, ⟨n, rfl⟩, _⟩ => exact ⟨⟨s, n⟩, hd⟩
theorem op_decls : Op 22 1 fun d => ∃ l : List S_api_Decl, d = .lst (l.map enc_S_api_Decl) := op_list Try.underlying22 (by kernel_rfl) (by omega) op_decl
theorem op_program : Op 25 2 fun d => ∃ q, d = enc_S_api_Program q :=
  (op_struct Try.underlying25 [fun d => ∃ l : List S_api_Decl, d = .lst (l.map enc_S_api_Decl), fun d => ∃ l : List S_api_Rule, d = .lst (l.map enc_S_api_Rule)] ⟨op_decls, op_rules, trivial⟩ (by kernel_rfl) (by kernel_rfl) (by kernel_rfl)).to fun d ⟨ds, hd, h⟩ => by
    match ds, h with
    | [_, _], ⟨⟨s, rfl⟩, ⟨n, rfl⟩, _⟩ => exact ⟨⟨s, n⟩, hd⟩
def aRanks : Arg := ⟨_, _, _, op_ranks, (cl_slice Try.underlying28).to fun _ ⟨_, h⟩ => ⟨_, h⟩⟩
def aAtoms : Arg := ⟨_, _, _, op_atoms, (cl_slice Try.underlying47).to fun _ ⟨_, h⟩ => ⟨_, h⟩⟩
def aDecls : Arg := ⟨_, _, _, op_decls, (cl_slice Try.underlying22).to fun _ ⟨_, h⟩ => ⟨_, h⟩⟩
def aRule : Arg := ⟨_, _, _, op_rule, (cl_struct Try.underlying50).to fun _ ⟨_, h⟩ => ⟨_, h⟩⟩
def aProgram : Arg := ⟨_, _, _, op_program, (cl_struct Try.underlying25).to fun _ ⟨_, h⟩ => ⟨_, h⟩⟩
def aU8 : Arg := ⟨_, _, _, op_u8 Try.underlying5, (cl_u8 Try.underlying5).to fun _ ⟨_, h, _⟩ => ⟨_, h⟩⟩
end Go.Proofs.Ythcgefbigimgoaa

