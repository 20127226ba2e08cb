/-
  Texts of the seat, merged.
-/
import Derived.Test.YtbdhjkneoandiaaGreatLGA
import Derived.Test.YtbdhjkneoandiaaGreatLGB
import Derived.Test.YtbdhjkneoandiaaGreatLGC
import Derived.Test.YtbdhjkneoandiaaGreatLGD
import Derived.Test.YtbdhjkneoandiaaGreatLGE
import Derived.Test.YtbdhjkneoandiaaGreatLGF
import Derived.Test.YtbdhjkneoandiaaGreatLGG
import Derived.Test.YtbdhjkneoandiaaGreatLGH
import Derived.Test.YtbdhjkneoandiaaGreatLGI
import Derived.Test.YtbdhjkneoandiaaGreatChecked
import Derived.WalkKit
import Derived.Lib.Hide
import Derived.Lib.AppendStr
import Derived.Deep.AppendLies
import Derived.Deep.AppendSrc
import Derived.Deep.Draws
import Derived.Deep.QuietTactic
import Derived.BigQuiet
import Derived.Deep.RegionWith
import Derived.Maps.AppendAt
import Derived.WalkSpells
import Derived.Orders
import Derived.Deep.Slices
import Derived.Deep.Fields
import Derived.ChangeArms
import Derived.Lib.OthersKept
import Derived.Lib.TrimU
import Derived.Lib.IndexAny
import Derived.Deep.LoopGhost
import Derived.Lib.Bytealg
import Derived.RangeFuncBox
import Derived.RangeFuncNested
import Derived.RangeFuncBound
import Derived.RangeFuncCalls
import Derived.RangeFuncLeaves
import Derived.Shelf.Abstract
import Derived.OwnWalkIn
import Derived.TacticsInMore
import Derived.LoopNIn
import Derived.LoopIn
import Derived.RangeFuncWrites
import Derived.Maps.OwnIn
import Derived.Maps.Views
import Derived.Laws.OwnMore
import Derived.Maps.OwnSet
import Derived.Test.YtbdhjkneoandiaaGreatRows
import Derived.ProofKit
import Derived.OpenShut
import Derived.Carry
import Derived.OrdersIn
import Derived.Great.BuildSlice
import Derived.ArgAppend
import Derived.Laws.MakeOwn
import Derived.Laws.Cover3
import Derived.Laws.CopyRow
import Derived.MapKept
import Derived.Maps.RangeRun
import Derived.DeepKeys5
import Derived.WideKeyRuns
import Derived.ChangeSlices
set_option linter.unusedVariables false
set_option linter.unusedSimpArgs false
set_option linter.unnecessarySimpa false
set_option linter.all false

namespace Go.Proofs.YtbdhjkneoandiaaGreat
set_option maxRecDepth 100000
open Go.RowKit

theorem phase_lf (op : Int) : lf_constraintref32_phase op = some (wantI op) := by
  unfold lf_constraintref32_phase wantI
  by_cases h1 : op = 6
  · subst h1; rfl
  by_cases h2 : op = 7
  · subst h2; rfl
  by_cases h3 : op = 8
  · subst h3; rfl
  by_cases h4 : op = 9
  · subst h4; rfl
  by_cases h5 : op = 10
  · subst h5; rfl
  simp only [beq_f h1, beq_f h2, beq_f h3, beq_f h4, beq_f h5, cond_false, if_neg h1, if_neg h2, if_neg h3, if_neg h4, if_neg h5]
/-- Two neighbours are in order. -/
def ordP (y x : S_api_Instr) : Bool := !decide (wantI x.f0_Op < wantI y.f0_Op) && !(x.f0_Op == y.f0_Op && (x.f0_Op == 7 || (x.f0_Op == 8 || (x.f0_Op == 6 && decide (x.f1_A ≤ y.f1_A)))))
def ordL : S_api_Instr → List S_api_Instr → Bool
  | _, [] => true
  | y, x :: l => ordP y x && ordL x l
def comN : List S_api_Instr → Nat
  | [] => 0
  | x :: l => (if x.f0_Op = 10 then 1 else 0) + comN l
theorem order_L0 (k : Int → Option Bool) (b : S_api_Block) (hL : b.f1_Code.length ≤ 1000) : ∀ (l : List S_api_Instr) (y : S_api_Instr) (c : Int) (i : Nat), 0 < i → b.f1_Code[i - 1]? = some y → b.f1_Code.drop i = l → 0 ≤ c → c + l.length ≤ 1000 → lf_constraintref32_order_L0 k b l c i = bif ordL y l then k (c + comN l) else some false
  | [], y, c, i, _, _, _, _, _ => by
    rw [lf_constraintref32_order_L0, ordL, comN, cond_true]
    simp
  | x :: l, y, c, i, hi, hy, hl, hc, hn => by
    simp only [List.length_cons] at hn
    have hlt : i < b.f1_Code.length := by
      have := congrArg List.length hl
      simp only [List.length_drop, List.length_cons] at this
      omega
    rw [List.drop_eq_getElem_cons hlt] at hl
    have e1 : b.f1_Code[i] = x := (List.cons.inj hl).1
    have e2 := (List.cons.inj hl).2
    have hw : wr ((i : Int) - 1) = ((i - 1 : Nat) : Int) := by rw [wr_eq (by omega)]; omega
    have hx : b.f1_Code[i + 1 - 1]? = some x := by rw [Nat.add_sub_cancel, List.getElem?_eq_getElem hlt, e1]
    have ih := fun c' h1 h2 => order_L0 k b hL l x c' (i + 1) (by omega) hx e2 h1 h2
    rw [lf_constraintref32_order_L0, show ((i : Int) == (0 : Int)) = false by simp only [beq_eq_false_iff_ne]; omega, hw, getI_nat, hy, ordL, ordP]
    simp only [Option.bind_some, phase_lf, cond_false]
    by_cases h10 : x.f0_Op = 10
    · rw [wr_eq (n := c + 1) (by omega), ih (c + 1) (by omega) (by omega), show (x.f0_Op == (10 : Int)) = true by simpa using h10, cond_true, show c + ((comN (x :: l) : Nat) : Int) = c + 1 + comN l by simp only [comN, h10, if_true]; omega]
      cases decide (wantI x.f0_Op < wantI y.f0_Op) <;> cases x.f0_Op == y.f0_Op <;> cases x.f0_Op == (7 : Int) <;> cases x.f0_Op == (8 : Int) <;> cases x.f0_Op == (6 : Int) <;> cases decide (x.f1_A ≤ y.f1_A) <;> cases ordL x l <;> rfl
    · rw [ih c (by omega) (by omega), beq_f h10, cond_false, show c + ((comN (x :: l) : Nat) : Int) = c + comN l by simp only [comN, if_neg h10]; omega]
      cases decide (wantI x.f0_Op < wantI y.f0_Op) <;> cases x.f0_Op == y.f0_Op <;> cases x.f0_Op == (7 : Int) <;> cases x.f0_Op == (8 : Int) <;> cases x.f0_Op == (6 : Int) <;> cases decide (x.f1_A ≤ y.f1_A) <;> cases ordL x l <;> rfl
/-- An instruction that stands before any other. -/
def yD : S_api_Instr := ⟨2, 0, 0, ⟨0, ⟨#[]⟩, []⟩, []⟩
theorem want_nn (op : Int) : 0 ≤ wantI op := by rcases want_le op with h | h | h | h | h | h <;> omega
theorem ordP_yD (x : S_api_Instr) : ordP yD x = true := by
  have h := want_nn x.f0_Op
  unfold ordP
  rw [show wantI yD.f0_Op = 0 from rfl, decide_eq_false (by omega), show yD.f0_Op = (2 : Int) from rfl]
  by_cases h2 : x.f0_Op = 2
  · simp [h2]
  · rw [beq_f h2]; rfl
theorem order_lf (b : S_api_Block) (hL : b.f1_Code.length ≤ 900) : lf_constraintref32_order b = some (ordL yD b.f1_Code && comN b.f1_Code == 1) := by
  rw [lf_constraintref32_order]
  have hk : ∀ n : Nat, ((n : Int) == (1 : Int)) = (n == 1) := fun n => by
    by_cases h : n = 1
    · subst h; rfl
    · rw [beq_f (by omega)]; simpa using h
  cases hc : b.f1_Code with
  | nil => rw [lf_constraintref32_order_L0]; rfl
  | cons x l =>
    rw [hc] at hL
    simp only [List.length_cons] at hL
    have ih := fun c h1 h2 => order_L0 (fun commits_3 => some (commits_3 == (1 : Int))) b (by rw [hc]; simp only [List.length_cons]; omega) l x c 1 (by omega) (by rw [hc]; rfl) (by rw [hc]; rfl) h1 h2
    rw [lf_constraintref32_order_L0, show (((0 : Nat) : Int) == (0 : Int)) = true from rfl, cond_true, cond_true, ordL, ordP_yD, Bool.true_and]
    by_cases h10 : x.f0_Op = 10
    · rw [wr_eq (n := 0 + 1) (by omega), ih (0 + 1) (by omega) (by omega), show (x.f0_Op == (10 : Int)) = true by simpa using h10, cond_true, show (0 + 1 + ((comN l : Nat) : Int)) = ((comN (x :: l) : Nat) : Int) by simp only [comN, h10, if_true]; omega, hk]
      cases ordL x l <;> rfl
    · rw [ih 0 (by omega) (by omega), beq_f h10, cond_false, show (0 + ((comN l : Nat) : Int)) = ((comN (x :: l) : Nat) : Int) by simp only [comN, if_neg h10]; omega, hk]
      cases ordL x l <;> rfl

/-! ### registers -/
theorem in_L0 (n : Int) : ∀ l : List Int, lf_constraintref32_in_L0 (some false) n l = some (decide (n ∈ l))
  | [] => by rw [lf_constraintref32_in_L0]; simp
  | x :: l => by
    rw [lf_constraintref32_in_L0, in_L0 n l]
    by_cases h : x = n
    · subst h; simp
    · rw [beq_f h, cond_false]; simp [Ne.symm h]
theorem in_lf (l : List Int) (n : Int) : lf_constraintref32_in l n = some (decide (n ∈ l)) := in_L0 n l
/-- The first n are there. -/
def fstL (l : List Int) (n : Int) : Bool := (!decide (0 < n) || decide (0 ∈ l)) && ((!decide (1 < n) || decide (1 ∈ l)) && ((!decide (2 < n) || decide (2 ∈ l)) && (!decide (3 < n) || decide (3 ∈ l))))
theorem firstR_lf (l : List Int) (n : Int) (h : 0 ≤ n ∧ n ≤ 4) : lf_constraintref32_first l n = some (fstL l n) := by
  have : n = 0 ∨ n = 1 ∨ n = 2 ∨ n = 3 ∨ n = 4 := by omega
  unfold lf_constraintref32_first fstL
  rcases this with rfl | rfl | rfl | rfl | rfl <;> simp only [Int.sub_zero, Int.reduceToNat, lf_constraintref32_first_L0, in_lf, Option.bind_some, Int.zero_add, Int.reduceAdd, Int.reduceLT, decide_true, decide_false] <;> cases decide ((0 : Int) ∈ l) <;> cases decide ((1 : Int) ∈ l) <;> cases decide ((2 : Int) ∈ l) <;> cases decide ((3 : Int) ∈ l) <;> rfl
def regOk (b : S_api_Block) (bd fr : List Int) (x : S_api_Instr) : Bool :=
  if x.f0_Op = 1 then decide (x.f1_A ∈ bd)
  else if x.f0_Op = 6 then decide (x.f1_A ∈ bd)
  else if x.f0_Op = 4 then decide (x.f1_A ∈ bd) && decide (x.f2_B ∈ bd)
  else if x.f0_Op = 3 then !decide (x.f1_A ∈ bd)
  else if x.f0_Op = 5 then fstL bd x.f2_B && x.f1_A == b.f0_Occ.f0_Rule
  else if x.f0_Op = 8 then fstL bd x.f2_B && (x.f1_A == b.f0_Occ.f0_Rule && decide (x.f2_B ∈ fr))
  else if x.f0_Op = 10 then x.f1_A == b.f0_Occ.f0_Rule
  else true
def bdN (bd : List Int) (x : S_api_Instr) : List Int := if x.f0_Op = 3 then bd ++ [x.f1_A] else bd
def frN (fr : List Int) (x : S_api_Instr) : List Int := if x.f0_Op = 5 then fr ++ [x.f2_B] else fr
def regL (b : S_api_Block) : List Int → List Int → List S_api_Instr → Bool
  | _, _, [] => true
  | bd, fr, x :: l => regOk b bd fr x && regL b (bdN bd x) (frN fr x) l
theorem appO_ok {α : Type} (n : Nat) (l m : List α) (h : l.length + m.length ≤ 10000) (hn : n ≤ 1000) : appO n l m = some (l ++ m) := by
  have : (l.length + m.length) * n ≤ 10000 * 1000 := Nat.mul_le_mul h hn
  exact if_pos ⟨by omega, by omega⟩
theorem registers_L0 (b : S_api_Block) : ∀ (l : List S_api_Instr) (bd fr : List Int), (∀ x ∈ l, Rg x) → bd.length + l.length ≤ 1000 → fr.length + l.length ≤ 1000 → lf_constraintref32_registers_L0 (some true) b l bd fr = some (regL b bd fr l)
  | [], bd, fr, _, _, _ => by rw [lf_constraintref32_registers_L0, regL]
  | x :: l, bd, fr, h, h1, h2 => by
    simp only [List.length_cons] at h1 h2
    have hx := h x (List.mem_cons_self ..)
    have hr : ∀ y ∈ l, Rg y := fun y hy => h y (List.mem_cons_of_mem _ hy)
    have ih := fun bd' fr' a1 a2 => registers_L0 b l bd' fr' hr a1 a2
    rw [lf_constraintref32_registers_L0, regL, ih bd fr (by omega) (by omega)]
    simp only [in_lf, Option.bind_some, appO_ok 8 bd [x.f1_A] (by simp; omega) (by omega), appO_ok 8 fr [x.f2_B] (by simp; omega) (by omega)]
    rw [ih (bd ++ [x.f1_A]) fr (by simp; omega) (by omega), ih bd (fr ++ [x.f2_B]) (by omega) (by simp; omega)]
    unfold regOk bdN frN
    by_cases g1 : x.f0_Op = 1
    · simp only [g1, beq_self_eq_true, cond_true, if_true, Int.reduceEq, if_false]
      cases decide (x.f1_A ∈ bd) <;> rfl
    by_cases g6 : x.f0_Op = 6
    · simp only [g6, beq_self_eq_true, cond_true, if_true, Int.reduceEq, if_false, Int.reduceBEq, cond_false]
      cases decide (x.f1_A ∈ bd) <;> rfl
    by_cases g4 : x.f0_Op = 4
    · simp only [g4, beq_self_eq_true, cond_true, if_true, Int.reduceEq, if_false, Int.reduceBEq, cond_false]
      cases decide (x.f1_A ∈ bd) <;> cases decide (x.f2_B ∈ bd) <;> rfl
    by_cases g3 : x.f0_Op = 3
    · simp only [g3, beq_self_eq_true, cond_true, if_true, Int.reduceEq, if_false, Int.reduceBEq, cond_false]
      cases decide (x.f1_A ∈ bd) <;> rfl
    by_cases g5 : x.f0_Op = 5
    · have hC := hx.c (by omega)
      simp only [g5, beq_self_eq_true, cond_true, if_true, Int.reduceEq, if_false, Int.reduceBEq, cond_false, firstR_lf bd x.f2_B (by omega), Option.bind_some]
      cases fstL bd x.f2_B <;> cases x.f1_A == b.f0_Occ.f0_Rule <;> rfl
    by_cases g8 : x.f0_Op = 8
    · have hC := hx.c (by omega)
      simp only [g8, beq_self_eq_true, cond_true, if_true, Int.reduceEq, if_false, Int.reduceBEq, cond_false, firstR_lf bd x.f2_B (by omega), Option.bind_some]
      cases fstL bd x.f2_B <;> cases x.f1_A == b.f0_Occ.f0_Rule <;> cases decide (x.f2_B ∈ fr) <;> rfl
    by_cases g10 : x.f0_Op = 10
    · simp only [g10, beq_self_eq_true, cond_true, if_true, Int.reduceEq, if_false, Int.reduceBEq, cond_false]
      cases x.f1_A == b.f0_Occ.f0_Rule <;> rfl
    simp only [beq_f g1, beq_f g6, beq_f g4, beq_f g3, beq_f g5, beq_f g8, beq_f g10, cond_false, if_neg g1, if_neg g6, if_neg g4, if_neg g3, if_neg g5, if_neg g8, if_neg g10]
    rfl
theorem registers_lf (b : S_api_Block) (h : ∀ x ∈ b.f1_Code, Rg x) (hl : b.f1_Code.length ≤ 900) : lf_constraintref32_registers b = some (regL b [b.f0_Occ.f1_Head] [] b.f1_Code) :=
  registers_L0 b b.f1_Code _ _ h (by simp; omega) (by simp; omega)

/-! ### kept -/
def rmL (b : S_api_Block) : Bool → List S_api_Instr → Bool
  | r, [] => r
  | r, x :: l => rmL b (r || (x.f0_Op == 6 && x.f1_A == b.f0_Occ.f1_Head)) l
def kpL : Bool → List S_api_Instr → Bool
  | r, [] => r
  | r, x :: l => kpL (r || x.f0_Op == 7) l
theorem kept_L0 (k : Bool → Bool → Option Bool) (b : S_api_Block) : ∀ (l : List S_api_Instr) (r c : Bool), lf_constraintref32_kept_L0 k b l r c = k (rmL b r l) (kpL c l)
  | [], r, c => by rw [lf_constraintref32_kept_L0, rmL, kpL]
  | x :: l, r, c => by
    rw [lf_constraintref32_kept_L0, rmL, kpL]
    simp only [kept_L0 k b l]
    cases r <;> cases c <;> cases x.f0_Op == (6 : Int) <;> rfl
theorem kept_lf (b : S_api_Block) : lf_constraintref32_kept b = some ((rmL b false b.f1_Code == !b.f0_Occ.f2_Kept) && (!kpL false b.f1_Code || b.f0_Occ.f2_Kept)) := by
  rw [lf_constraintref32_kept, kept_L0]
  cases rmL b false b.f1_Code <;> cases kpL false b.f1_Code <;> cases b.f0_Occ.f2_Kept <;> rfl
end Go.Proofs.YtbdhjkneoandiaaGreat


namespace Go.Proofs.YtbdhjkneoandiaaGreat
set_option maxRecDepth 100000
open Go.RowKit

structure Rl (s : Fs) (bd fr : List Int) : Prop where
  b : ∀ n, 0 ≤ n ∧ n ≤ 3 → gB s n = decide (n ∈ bd)
  f : ∀ n, (mget s.fr n).getD false = decide (n ∈ fr)
theorem Rl.fst {s : Fs} {bd fr : List Int} (h : Rl s bd fr) (n : Int) : fstB s n = fstL bd n := by
  have h0 := h.b 0 (by omega)
  have h1 := h.b 1 (by omega)
  have h2 := h.b 2 (by omega)
  have h3 := h.b 3 (by omega)
  unfold fstB fstL
  rw [← h0, ← h1, ← h2, ← h3]
  rfl
theorem opOk_reg {b : S_api_Block} {s : Fs} {bd fr : List Int} {x : S_api_Instr} (h : Rl s bd fr) (g : Rg x) : opOk b s x = (regOk b bd fr x && !(x.f0_Op == 6 && decide (x.f1_A ≤ s.la))) := by
  unfold opOk regOk
  by_cases h6 : x.f0_Op = 6
  · simp only [h6, Int.reduceEq, if_true, if_false, h.b _ (g.a (by omega)), beq_self_eq_true, Bool.true_and]
  have e : (x.f0_Op == (6 : Int)) = false := beq_f h6
  rw [e, if_neg h6, if_neg h6, Bool.false_and, Bool.not_false, Bool.and_true]
  by_cases h8 : x.f0_Op = 8
  · simp only [h8, Int.reduceEq, if_true, if_false, h.fst, h.f]
    cases fstL bd x.f2_B <;> cases decide (x.f2_B ∈ fr) <;> cases x.f1_A == b.f0_Occ.f0_Rule <;> rfl
  by_cases h10 : x.f0_Op = 10
  · simp only [h10, Int.reduceEq, if_true, if_false]
  by_cases h1 : x.f0_Op = 1
  · simp only [h1, Int.reduceEq, if_true, if_false, h.b _ (g.a (by omega))]
  by_cases h4 : x.f0_Op = 4
  · simp only [h4, Int.reduceEq, if_true, if_false, h.b _ (g.a (by omega)), h.b _ (g.b (by omega))]
  by_cases h3 : x.f0_Op = 3
  · simp only [h3, Int.reduceEq, if_true, if_false, h.b _ (g.a (by omega))]
  by_cases h5 : x.f0_Op = 5
  · simp only [h5, Int.reduceEq, if_true, if_false, h.fst]
  simp only [if_neg h8, if_neg h10, if_neg h1, if_neg h4, if_neg h3, if_neg h5]
theorem Rl.next {b : S_api_Block} {s : Fs} {bd fr : List Int} {x : S_api_Instr} (h : Rl s bd fr) : Rl (nxt b s x) (bdN bd x) (frN fr x) := by
  refine ⟨fun n hn => ?_, fun n => ?_⟩
  · have h0 := h.b n hn
    unfold bdN nxt
    by_cases h3 : x.f0_Op = 3
    · simp only [h3, Int.reduceEq, if_true, if_false]
      have e : n = 0 ∨ n = 1 ∨ n = 2 ∨ n = 3 := by omega
      have key : gB s n = decide (n ∈ bd) := h0
      rw [show decide (n ∈ bd ++ [x.f1_A]) = (decide (n ∈ bd) || x.f1_A == n) by
        by_cases hx : x.f1_A = n
        · subst hx; simp
        · rw [beq_f hx]; simp [Ne.symm hx], ← h0]
      unfold gB
      rcases e with rfl | rfl | rfl | rfl
      · simp only [if_true]; cases x.f1_A == (0 : Int) <;> cases s.b0 <;> rfl
      · simp only [if_true, Int.reduceEq, if_false]; cases x.f1_A == (1 : Int) <;> cases s.b1 <;> rfl
      · simp only [if_true, Int.reduceEq, if_false]; cases x.f1_A == (2 : Int) <;> cases s.b2 <;> rfl
      · simp only [if_true, Int.reduceEq, if_false]; cases x.f1_A == (3 : Int) <;> cases s.b3 <;> rfl
    · simp only [if_neg h3]
      exact h0
  · have h0 := h.f n
    unfold frN nxt
    by_cases h5 : x.f0_Op = 5
    · simp only [h5, if_true]
      rw [mget_mput]
      by_cases hx : x.f2_B = n
      · subst hx; simp
      · rw [if_neg hx, h0]
        simp [Ne.symm hx]
    · simp only [if_neg h5]
      exact h0
theorem want_cases (op : Int) : (op = 6 ∧ wantI op = 1) ∨ (op = 7 ∧ wantI op = 2) ∨ (op = 8 ∧ wantI op = 3) ∨ (op = 9 ∧ wantI op = 4) ∨ (op = 10 ∧ wantI op = 5) ∨ (op ≠ 6 ∧ op ≠ 7 ∧ op ≠ 8 ∧ op ≠ 9 ∧ op ≠ 10 ∧ wantI op = 0) := by
  unfold wantI
  by_cases h6 : op = 6
  · subst h6; simp
  by_cases h7 : op = 7
  · subst h7; simp
  by_cases h8 : op = 8
  · subst h8; simp
  by_cases h9 : op = 9
  · subst h9; simp
  by_cases h10 : op = 10
  · subst h10; simp
  simp [h6, h7, h8, h9, h10]
theorem place {s : Fs} {y x : S_api_Instr} (hs : s.sg = wantI y.f0_Op) (h0 : s.sg < 1 → s.la = -1) (h6 : y.f0_Op = 6 → s.la = y.f1_A) (g : Rg x) : (sgOk (wantI x.f0_Op) s.sg && !(x.f0_Op == 6 && decide (x.f1_A ≤ s.la))) = (ordP y x && !(s.sg == 5)) := by
  have ga := g.a
  unfold sgOk ordP
  rw [hs] at h0 ⊢
  rcases want_cases x.f0_Op with ⟨e1, e2⟩ | ⟨e1, e2⟩ | ⟨e1, e2⟩ | ⟨e1, e2⟩ | ⟨e1, e2⟩ | ⟨a1, a2, a3, a4, a5, e2⟩ <;> rcases want_cases y.f0_Op with ⟨f1, f2⟩ | ⟨f1, f2⟩ | ⟨f1, f2⟩ | ⟨f1, f2⟩ | ⟨f1, f2⟩ | ⟨b1, b2, b3, b4, b5, f2⟩ <;> rw [e2, f2] <;> first
    | grind
    | (rw [h6 f1, e1, f1]; cases decide (x.f1_A ≤ y.f1_A) <;> rfl)
    | (rw [e1, f1]; rfl)
theorem finEq (c k r p : Bool) : (c && (r != k && (!p || k))) = (c && ((r == !k) && (!p || k))) := by cases c <;> cases k <;> cases r <;> cases p <;> rfl
theorem sim (b : S_api_Block) : ∀ (l : List S_api_Instr) (s : Fs) (y : S_api_Instr) (bd fr : List Int), (∀ x ∈ l, Rg x) → Rl s bd fr → s.sg = wantI y.f0_Op → (s.sg < 1 → s.la = -1) → (y.f0_Op = 6 → s.la = y.f1_A) →
    (match chain b s l with | some s' => finOk b s' | none => false) = (ordL y l && ((if s.sg = 5 then 1 else 0) + comN l == 1) && (regL b bd fr l && ((rmL b s.rm l == !b.f0_Occ.f2_Kept) && (!kpL s.kp l || b.f0_Occ.f2_Kept))))
  | [], s, y, bd, fr, _, _, _, _, _ => by
    simp only [chain, finOk, ordL, comN, regL, rmL, kpL, Bool.true_and]
    rw [finEq]
    by_cases h : s.sg = 5
    · simp [h]
    · rw [beq_f h, if_neg h]; rfl
  | x :: l, s, y, bd, fr, hg, hR, hs, h0, h6 => by
    have g := hg x (List.mem_cons_self ..)
    have hp := place hs h0 h6 g
    have ho := opOk_reg (b := b) hR g
    have ih := fun hk : sgOk (wantI x.f0_Op) s.sg = true => sim b l (nxt b s x) x (bdN bd x) (frN fr x) (fun y hy => hg y (List.mem_cons_of_mem _ hy)) hR.next rfl (fun h => by
      have hn := want_nn y.f0_Op
      have hlt : wantI x.f0_Op < 1 := h
      have h6' : x.f0_Op ≠ 6 := fun e => by rw [e] at hlt; exact absurd hlt (by decide)
      simp only [nxt, if_neg h6']
      refine h0 ?_
      unfold sgOk at hk
      simp only [Bool.and_eq_true, Bool.not_eq_true', decide_eq_false_iff_not] at hk
      omega) (fun e => by simp only [nxt, e, if_true])
    have hrm : (nxt b s x).rm = (s.rm || (x.f0_Op == 6 && x.f1_A == b.f0_Occ.f1_Head)) := by
      simp only [nxt]
      by_cases e : x.f0_Op = 6
      · simp [e]
      · rw [if_neg e, beq_f e]; simp
    have hkp : (nxt b s x).kp = (s.kp || x.f0_Op == 7) := by
      simp only [nxt]
      by_cases e : x.f0_Op = 7
      · simp [e]
      · rw [if_neg e, beq_f e]; simp
    rw [chain, ordL, comN, regL, rmL, kpL]
    by_cases hc : (opOk b s x && sgOk (wantI x.f0_Op) s.sg) = true
    · rw [if_pos hc]
      have hc' := hc
      rw [Bool.and_eq_true] at hc'
      rw [ih hc'.2, hrm, hkp]
      have h1 := hc'.1
      rw [ho, Bool.and_eq_true] at h1
      rw [hc'.2, h1.2, Bool.true_and] at hp
      have hp := hp.symm
      rw [Bool.and_eq_true, Bool.not_eq_true', beq_eq_false_iff_ne] at hp
      rw [hp.1, h1.1, if_neg hp.2, Bool.true_and, Bool.true_and, Nat.zero_add]
      have e : (if (nxt b s x).sg = 5 then 1 else 0) = (if x.f0_Op = 10 then 1 else 0) := by
        have : (nxt b s x).sg = 5 ↔ x.f0_Op = 10 := want5
        by_cases hx : x.f0_Op = 10
        · rw [if_pos hx, if_pos (this.2 hx)]
        · rw [if_neg hx, if_neg fun h => hx (this.1 h)]
      rw [e]
    · rw [if_neg hc]
      simp only []
      have hc : (opOk b s x && sgOk (wantI x.f0_Op) s.sg) = false := by simpa using hc
      symm
      cases hr : regOk b bd fr x with
      | false => simp
      | true =>
        rw [hr, Bool.true_and] at ho
        have : (ordP y x && !(s.sg == 5)) = false := by
          rw [← hp, ← hc, ho]
          exact Bool.and_comm _ _
        cases hq : ordP y x with
        | false => simp
        | true =>
          rw [hq, Bool.true_and, Bool.not_eq_false', beq_iff_eq] at this
          have h10 : x.f0_Op = 10 := by
            unfold ordP at hq
            rw [← hs, this] at hq
            simp only [Bool.and_eq_true, Bool.not_eq_true', decide_eq_false_iff_not] at hq
            rcases want_le x.f0_Op with h | h | h | h | h | h <;> first | omega | exact want5.1 h
          rw [if_pos this, if_pos h10]
          have : (1 + (1 + comN l) == 1) = false := by simp only [beq_eq_false_iff_ne]; omega
          rw [this]
          simp
/-- The reference's last question on a block. -/
theorem formed_ref (b : S_api_Block) (hh : 0 ≤ b.f0_Occ.f1_Head ∧ b.f0_Occ.f1_Head ≤ 3) (hg : ∀ x ∈ b.f1_Code, Rg x) : formedF b = (ordL yD b.f1_Code && comN b.f1_Code == 1 && (regL b [b.f0_Occ.f1_Head] [] b.f1_Code && ((rmL b false b.f1_Code == !b.f0_Occ.f2_Kept) && (!kpL false b.f1_Code || b.f0_Occ.f2_Kept)))) := by
  have := sim b b.f1_Code (s0 b) yD [b.f0_Occ.f1_Head] [] hg ⟨fun n hn => ?_, fun n => ?_⟩ rfl (fun _ => rfl) (fun h => by cases h)
  · refine (show formedF b = _ from rfl).trans (this.trans ?_)
    simp only [s0]
    simp
  · have e : n = 0 ∨ n = 1 ∨ n = 2 ∨ n = 3 := by omega
    have hd : b.f0_Occ.f1_Head = 0 ∨ b.f0_Occ.f1_Head = 1 ∨ b.f0_Occ.f1_Head = 2 ∨ b.f0_Occ.f1_Head = 3 := by omega
    unfold gB s0
    rcases e with rfl | rfl | rfl | rfl <;> rcases hd with h | h | h | h <;> simp [h]
  · simp [s0, mget]
theorem refCheck_L0 (k : Option Int) : ∀ l : List S_api_Instr, (∀ x ∈ l, Bi x) → lf_constraintref32_Check_L0 k l = bif l.all rI then k else some 2
  | [], _ => by rw [lf_constraintref32_Check_L0]; rfl
  | x :: l, h => by
    rw [lf_constraintref32_Check_L0, refRight_tot (h x (List.mem_cons_self ..)), Option.bind_some, refCheck_L0 k l fun y hy => h y (List.mem_cons_of_mem _ hy)]
    cases hr : rI x <;> simp [hr]
theorem refCheck_lf (b : S_api_Block) (h : BiB b) : lf_constraintref32_Check b = some (cK b) := by
  rw [lf_constraintref32_Check, cK]
  by_cases hl : 200 < b.f1_Code.length
  · rw [decide_eq_true (by omega), cond_true, if_pos hl]
  · rw [decide_eq_false (by omega), cond_false, if_neg hl, refNumber_lf, Option.bind_some, refRegister_lf, Option.bind_some]
    cases h1 : inB b.f0_Occ.f0_Rule 0 39 with
    | false => simp
    | true =>
      cases h2 : inB b.f0_Occ.f1_Head 0 3 with
      | false => simp
      | true =>
        rw [refCheck_L0 _ _ h]
        cases h3 : b.f1_Code.all rI with
        | false => simp
        | true =>
          have hg : ∀ x ∈ b.f1_Code, Rg x := fun x hx => rg_of (List.all_eq_true.1 h3 x hx)
          rw [order_lf b (by omega), Option.bind_some, registers_lf b hg (by omega), Option.bind_some, kept_lf, Option.bind_some, formed_ref b (inB_iff.1 h2) hg]
          cases (ordL yD b.f1_Code && comN b.f1_Code == 1) <;> cases regL b [b.f0_Occ.f1_Head] [] b.f1_Code <;> cases ((rmL b false b.f1_Code == !b.f0_Occ.f2_Kept) && (!kpL false b.f1_Code || b.f0_Occ.f2_Kept)) <;> simp
theorem check32 (b : S_api_Block) (hn : ∀ i ∈ b.f1_Code, Ni i) : lf_constraintlaw32_InstrCheck b = some true := by
  rw [lf_constraintlaw32_InstrCheck]
  obtain ⟨c, e1, e2⟩ := great32_lf b.f1_Code 600 (by omega) hn
  rw [e1, Option.bind_some]
  cases c with
  | true => rfl
  | false =>
    have hB : BiB b := (e2 rfl).2
    rw [cond_false, check_lf b hB, Option.bind_some, refCheck_lf b hB, Option.bind_some, live32]
    simp
theorem gives_InstrCheck (b : S_api_Block) : Gives Tryz.prog 3 [enc_S_api_Block b] (.bool true) := fun w p vs hi hv => by
  have hv' := hv
  simp only [Repl] at hv'
  obtain ⟨v, _, _, h, _⟩ := hv'
  exact lg_constraintlaw32_InstrCheck b true (check32 b (nib_of h).1) w p vs hi hv
end Go.Proofs.YtbdhjkneoandiaaGreat


namespace Go.Proofs.YtbdhjkneoandiaaGreat
set_option maxRecDepth 100000
open Go.ChangeShapes Go.WideShapes Go.ChangeAt Go.RowKit

/-- Every cell that there is. -/
def live (w : World) (a : Addr) : Prop := ∃ v, w.cell? a = some v
theorem live_grow {w w' : World} (e : Ext w w') : Grow (live w) w (live w') w' := fun _ ⟨v, hv⟩ => ⟨⟨v, e.cellOf hv⟩, by rw [hv]; exact e.cellOf hv⟩
/-- A datum of a type, opened. -/
def Op (t : TypeId) (n : Nat) (S : D → Prop) : Prop := ∀ (H : Type) (enc : TypeId × Value → H) (W : World) (base : Nat) (sp : Nat → Bool) (hd : Bool) (fuel : Nat) (cs : List Value) (x : DataW H × List MemPlace),
  DataW.trod enc Tryz.prog W base sp hd fuel t cs = some x → ∃ d v, S d ∧ d.plain = true ∧ sz d = n ∧ Rep (live W) W d v ∧ cs = v.cells.toList
theorem Op.to {t : TypeId} {n : Nat} {S S' : D → Prop} (h : Op t n S) (k : ∀ d, S d → S' d) : Op t n S' := fun H enc W base sp hd fuel cs x hx => by
  obtain ⟨d, v, h1, h2⟩ := h H enc W base sp hd fuel cs x hx
  exact ⟨d, v, k d h1, h2⟩
theorem op_i64 {t : TypeId} (ht : (Tryz.prog).underlying t = some (.int .i64)) : Op t 1 fun d => ∃ n, d = .int .i64 n := fun H enc W base sp hd fuel cs x hx => by
  obtain ⟨k, rfl, _, w0⟩ := DataW.trod_int ht hx
  have := i64_of w0
  refine ⟨.int .i64 k, .int .i64 k, ⟨k, rfl⟩, rfl, rfl, ?_, by simp [Value.cells]⟩
  simp only [Rep]
  exact ⟨trivial, wrap64 (by unfold I64 at this; omega)⟩
theorem op_str {t : TypeId} (ht : (Tryz.prog).underlying t = some .string) : Op t 1 fun d => ∃ s, d = .str s := fun H enc W base sp hd fuel cs x hx => by
  obtain ⟨s, rfl, _, w0⟩ := DataW.trod_string ht hx
  refine ⟨.str s, .string s, ⟨s, rfl⟩, rfl, rfl, ?_, by simp [Value.cells]⟩
  simp only [Rep]
  exact ⟨trivial, by unfold maxLen at w0; omega⟩
theorem op_bool {t : TypeId} (ht : (Tryz.prog).underlying t = some .bool) : Op t 1 fun d => ∃ b, d = .bool b := fun H enc W base sp hd fuel cs x hx => by
  obtain ⟨b, rfl, _⟩ := DataW.trod_bool ht hx
  refine ⟨.bool b, .bool b, ⟨b, rfl⟩, rfl, rfl, ?_, by simp [Value.cells]⟩
  simp only [Rep]

/-- One predicate a field. -/
def Fits : List (D → Prop) → List D → Prop
  | [], [] => True
  | S :: ss, d :: ds => S d ∧ Fits ss ds
  | _, _ => False
/-- Fields, one behind the other, from an offset to the end. -/
def tight (P : Program) : Nat → List Field → Bool
  | _, [] => true
  | o, f :: fs => f.offset == o && tight P (o + P.cellsOf f.type) fs
theorem reps_ones {p : Addr → Prop} {w : World} : ∀ {ds : List D} {cs : List Value}, Reps p w ds cs → (∀ d ∈ ds, d.plain = true) → ∀ u ∈ cs, u.oneCell' = true
  | [], cs, h, _, u, hu => by simp only [Reps] at h; subst h; simp at hu
  | d :: ds, cs, h, hp, u, hu => by
    simp only [Reps] at h
    obtain ⟨v, rest, rfl, h1, h2⟩ := h
    rcases List.mem_append.1 hu with hu | hu
    · exact h1.one (hp d (List.mem_cons_self ..)) u hu
    · exact reps_ones h2 (fun e he => hp e (List.mem_cons_of_mem _ he)) u hu
def total (P : Program) : List Field → Nat
  | [] => 0
  | f :: fs => P.cellsOf f.type + total P fs
def Ops : List Field → List (D → Prop) → Prop
  | [], [] => True
  | f :: fs, S :: ss => Op f.type ((Tryz.prog).cellsOf f.type) S ∧ Ops fs ss
  | _, _ => False
theorem fields_open {H : Type} {enc : TypeId × Value → H} {W : World} {base : Nat} {sp : Nat → Bool} {hd : Bool} {n : Nat} {cs : List Value} :
    ∀ (fs : List Field) (ss : List (D → Prop)) (o : Nat), Ops fs ss → tight Tryz.prog o fs = true → o + total Tryz.prog fs = cs.length →
      (∀ (i : Nat) (f : Field), fs[i]? = some f → ∃ x, DataW.trod enc Tryz.prog W base sp hd n f.type ((cs.drop f.offset).take ((Tryz.prog).cellsOf f.type)) = some x) →
      ∃ ds, Fits ss ds ∧ (∀ d ∈ ds, d.plain = true) ∧ szs ds = total Tryz.prog fs ∧ Reps (live W) W ds (cs.drop o)
  | [], [], o, _, _, hl, _ => ⟨[], trivial, by simp, rfl, by simp only [total] at hl; rw [List.drop_eq_nil_of_le (by omega)]; exact Reps.nil _ _⟩
  | f :: fs, S :: ss, o, hop, ht, hl, hx => by
    simp only [tight, Bool.and_eq_true, beq_iff_eq] at ht
    simp only [total] at hl
    obtain ⟨ds, h1, h2, h3, h4⟩ := fields_open fs ss (o + (Tryz.prog).cellsOf f.type) hop.2 ht.2 (by omega) fun i g hg => hx (i + 1) g hg
    obtain ⟨x, h5⟩ := hx 0 f rfl
    rw [ht.1] at h5
    obtain ⟨d, v, g1, g2, g3, g4, g5⟩ := hop.1 H enc W base sp hd n _ x h5
    refine ⟨d :: ds, ⟨g1, h1⟩, ?_, by simp only [szs, total, g3, h3], ?_⟩
    · intro e he
      rcases List.mem_cons.1 he with rfl | he
      · exact g2
      · exact h2 e he
    · have := Reps.cons g4 h4
      rw [← g5, ← List.drop_drop, List.take_append_drop] at this
      exact this
  | [], _ :: _, _, h, _, _, _ => h.elim
  | _ :: _, [], _, h, _, _, _ => h.elim
theorem op_struct {t : TypeId} {fs : Array Field} {n : Nat} (ht : (Tryz.prog).underlying t = some (.struct fs)) (ss : List (D → Prop)) (hs : Ops fs.toList ss) (h1 : tight Tryz.prog 0 fs.toList = true) (h2 : total Tryz.prog fs.toList = n) (h3 : (Tryz.prog).cellsOf t = n) :
    Op t n fun d => ∃ ds, d = .agg ds ∧ Fits ss ds := fun H enc W base sp hd fuel cs x hx => by
  obtain ⟨xs, m, _, _, hl, hlen, hf⟩ := DataW.trod_struct ht hx
  obtain ⟨ds, g1, g2, g3, g4⟩ := fields_open (enc := enc) (W := W) (base := base) (sp := sp) (hd := hd) (n := m) (cs := cs) fs.toList ss 0 hs h1 (by omega) fun i f hi => by
    have hi' : fs[i]? = some f := by simpa using hi
    have hlt : i < xs.length := by
      have := (Array.getElem?_eq_some_iff.1 hi').1
      omega
    exact ⟨xs[i], by rw [hf i f hi', List.getElem?_eq_getElem hlt]⟩
  refine ⟨.agg ds, .agg cs.toArray, ⟨ds, rfl, g1⟩, rfl, by simp only [sz]; omega, ?_, by simp [Value.cells]⟩
  simp only [Rep]
  rw [List.drop_zero] at g4
  exact ⟨cs, rfl, g4, reps_ones g4 g2⟩
/-- Data of one size as a layout. -/
def layD (n : Nat) (hn : 0 < n) (S : D → Prop) : Lay D where
  C := fun w d cs => S d ∧ d.plain = true ∧ sz d = n ∧ ∃ v, Rep (live w) w d v ∧ cs = v.cells.toList
  n := n
  pos := hn
  ext := fun ⟨h1, h2, h3, v, h4, h5⟩ e => ⟨h1, h2, h3, v, h4.grow (live_grow e), h5⟩
  len := fun ⟨_, _, h3, v, h4, h5⟩ => by rw [h5, ← h3, ← h4.sz]; simp
  one := fun ⟨_, h2, _, v, h4, h5⟩ u hu => by subst h5; exact h4.one h2 u hu
theorem layD_ls {n : Nat} {hn : 0 < n} {S : D → Prop} {w : World} : ∀ {l : List D} {xs : List Value}, (layD n hn S).Ls w l xs → (∀ d ∈ l, S d ∧ d.plain = true) ∧ Reps (live w) w l xs
  | [], xs, h => by
    have h : xs = [] := h
    subst h
    exact ⟨by simp, Reps.nil _ _⟩
  | d :: l, xs, ⟨cs, ys, h1, ⟨g1, g2, _, v, g4, g5⟩, h3⟩ => by
    obtain ⟨k1, k2⟩ := layD_ls h3
    subst h1 g5
    refine ⟨?_, Reps.cons g4 k2⟩
    intro e he
    rcases List.mem_cons.1 he with rfl | he
    · exact ⟨g1, g2⟩
    · exact k1 e he
theorem rd_live {w : World} {A : Option Addr} {xs : List Value} (h : Rd w A xs) : RdP (live w) w A xs := by
  rcases h with h | ⟨ad, rfl, hc⟩
  · exact .inl h
  · by_cases he : xs = []
    · exact .inl he
    · have hlen : 0 < xs.length := List.length_pos_iff.2 he
      have hsp : ad.spot = none := by
        have := cell_spot (hc 0 _ (List.getElem?_eq_getElem hlen))
        simpa [Addr.add] using this
      obtain ⟨b, o, sp⟩ := ad
      simp only at hsp
      subst hsp
      refine .inr ⟨b, o, rfl, fun j u hu => ?_⟩
      have h1 : w.cell? ⟨b, o + j, none⟩ = some u := by have := hc j u hu; rwa [add_flat] at this
      exact ⟨⟨u, h1⟩, h1⟩
theorem op_slice {t e : TypeId} {n : Nat} {S : D → Prop} (ht : (Tryz.prog).underlying t = some (.slice e)) (hn : (Tryz.prog).cellsOf e = n) (hp : 0 < n) (he : Op e n S) : Op t 1 fun d => ∃ l, d = .lst l ∧ ∀ x ∈ l, S x := fun H enc W base sp hd fuel cs x hx => by
  obtain ⟨l, v, rfl, h1⟩ := Lay.open_sl (L := layD n hp S) ht hn (fun m cs x _ h => by
    obtain ⟨d, v, g1, g2, g3, g4, g5⟩ := he H enc W base sp hd m cs x h
    exact ⟨d, g1, g2, g3, v, g4, g5⟩) hx
  obtain ⟨A, c, xs, rfl, h2, h3, h4, h5⟩ := h1
  obtain ⟨h6, h7⟩ := layD_ls h5
  refine ⟨.lst l, .slice A l.length c, ⟨l, rfl, fun d hd => (h6 d hd).1⟩, rfl, rfl, ?_, by simp [Value.cells]⟩
  simp only [Rep]
  exact ⟨A, c, xs, rfl, h2, h3, rd_live h4, h7, reps_ones h7 fun d hd => (h6 d hd).2⟩
/-- A list of data that all show something is the list of what they show. -/
theorem list_img {α : Type} {f : α → D} : ∀ {l : List D}, (∀ x ∈ l, ∃ a, x = f a) → ∃ av : List α, l = av.map f
  | [], _ => ⟨[], rfl⟩
  | d :: l, h => by
    obtain ⟨a, rfl⟩ := h d (List.mem_cons_self ..)
    obtain ⟨av, rfl⟩ := list_img fun x hx => h x (List.mem_cons_of_mem _ hx)
    exact ⟨a :: av, rfl⟩
theorem op_list {α : Type} {f : α → D} {t e : TypeId} {n : Nat} (ht : (Tryz.prog).underlying t = some (.slice e)) (hn : (Tryz.prog).cellsOf e = n) (hp : 0 < n) (he : Op e n fun d => ∃ a, d = f a) : Op t 1 fun d => ∃ av : List α, d = .lst (av.map f) :=
  (op_slice ht hn hp he).to fun d ⟨l, hl, h⟩ => by
    obtain ⟨av, rfl⟩ := list_img h
    exact ⟨av, hl⟩

/-! ### terms -/
mutual
theorem rep_ct {w : World} : ∀ {t : T} {cs : List Value}, CT w t cs → Reps (live w) w (fsT t) cs
  | .mk k i s ar, cs, h => by
    simp only [CT] at h
    obtain ⟨A, c, xs, rfl, ⟨h1, h2, h3, h4, h5⟩, h6, h7⟩ := h
    have g := rep_cl h7
    simp only [fsT, Reps, Rep]
    refine ⟨.int .i64 k, _, by simp [Value.cells]; rfl, ⟨rfl, wrap64 (by unfold I64 at h1; omega)⟩, .int .i64 i, _, by simp [Value.cells]; rfl, ⟨rfl, wrap64 (by unfold I64 at h2; omega)⟩, .string s, _, by simp [Value.cells]; rfl, ⟨rfl, h3⟩, .slice A ar.length c, _, by simp [Value.cells], ⟨A, c, xs, ?_, ?_, h5, rd_live h6, g, reps_ones g ?_⟩, rfl⟩
    · rw [encTs_eq]; simp
    · rw [encTs_eq]; simpa using h4
    · rw [encTs_eq]
      intro d hd
      obtain ⟨t, _, rfl⟩ := List.mem_map.1 hd
      rfl
theorem rep_cl {w : World} : ∀ {ts : List T} {xs : List Value}, CL w ts xs → Reps (live w) w (encTs ts) xs
  | [], xs, h => by
    simp only [CL] at h
    subst h
    simp only [encTs, Reps]
  | t :: ts, xs, h => by
    simp only [CL] at h
    obtain ⟨cs, ys, rfl, h1, h2⟩ := h
    have g := rep_ct h1
    simp only [encTs, Reps]
    refine ⟨.agg cs.toArray, ys, by simp [Value.cells], ?_, rep_cl h2⟩
    simp only [Rep]
    exact ⟨cs, rfl, g, reps_ones g fun d hd => by
      rw [fsT_eq] at hd
      simp only [List.mem_cons, List.not_mem_nil, or_false] at hd
      rcases hd with rfl | rfl | rfl | rfl <;> rfl⟩
end
theorem op_term : Op 76 4 fun d => ∃ t, d = encT t := fun H enc W base sp hd fuel cs x hx => by
  obtain ⟨t, ht⟩ := open_termF fuel cs x hx
  have g := rep_ct ht
  refine ⟨encT t, .agg cs.toArray, ⟨t, rfl⟩, rfl, sz_encT t, ?_, by simp [Value.cells]⟩
  simp only [Rep]
  exact ⟨cs, rfl, g, reps_ones g fun d hd => by
    rw [fsT_eq] at hd
    simp only [List.mem_cons, List.not_mem_nil, or_false] at hd
    rcases hd with rfl | rfl | rfl | rfl <;> rfl⟩
theorem op_terms : Op 40 1 fun d => ∃ l : List T, d = .lst (l.map encT) := op_list Tryz.underlying40 cells_term (by omega) op_term
theorem op_goal : Op 42 3 fun d => ∃ g, d = encG g :=
  (op_struct Tryz.underlying42 [fun d => ∃ n, d = .int .i64 n, fun d => ∃ s, d = .str s, fun d => ∃ l : List T, d = .lst (l.map encT)] ⟨op_i64 Tryz.underlying3, op_str Tryz.underlying9, op_terms, trivial⟩ (by kernel_rfl) (by kernel_rfl) cells_goal).to fun d ⟨ds, hd, h⟩ => by
    match ds, h with
    | [_, _, _], ⟨⟨n, rfl⟩, ⟨s, rfl⟩, ⟨l, rfl⟩, _⟩ => exact ⟨⟨n, s, l⟩, hd⟩
theorem op_ints : Op 52 1 fun d => ∃ l, d = encI l := op_list (f := fun n => .int .i64 n) Tryz.underlying52 cells_int (by omega) (op_i64 Tryz.underlying3)

/-! ### a law's arguments -/
/-- The value has the shape of its data. -/
def Cl (t : TypeId) (S : D → Prop) : Prop := ∀ (W : World) (b : Nat) (v : Value), Value.okWide Tryz.prog W .any b t v → ∀ d, S d → v = reval d v.cells.toList
theorem Cl.to {t : TypeId} {S S' : D → Prop} (h : Cl t S') (k : ∀ d, S d → S' d) : Cl t S := fun W b v hv d hd => h W b v hv d (k d hd)
theorem cl_struct {t : TypeId} {fs : Array Field} (ht : (Tryz.prog).underlying t = some (.struct fs)) : Cl t fun d => ∃ ds, d = .agg ds := fun W b v hv d ⟨ds, hd⟩ => by
  obtain ⟨cs, rfl, _⟩ := okWide_struct ht hv
  subst hd
  simp [Value.cells, reval]
structure Arg where
  t : TypeId
  n : Nat
  S : D → Prop
  op : Op t n S
  cl : Cl t S
theorem args_open {H : Type} {enc : TypeId × Value → H} {W : World} {base b : Nat} {sp : Nat → Bool} {hd : Bool} : ∀ (av : List Arg) (vs : List Value) (ds : List (DataW H)) (ps : List MemPlace),
    DataW.TrodAll enc Tryz.prog W base sp hd (av.map Arg.t) vs ds ps → (∀ (j : Nat) t v, (av.map Arg.t)[j]? = some t → vs[j]? = some v → Value.okWide Tryz.prog W .any b t v) → ∃ es, Fits (av.map Arg.S) es ∧ Repl (live W) W es vs
  | [], vs, ds, ps, h, _ => by
    obtain ⟨rfl, _, _⟩ := trodAll_nil h
    exact ⟨[], trivial, Repl.nil _ _⟩
  | a :: av, vs, ds, ps, h, hv => by
    obtain ⟨v, vs', d, ds', p, q, rfl, rfl, rfl, ⟨fuel, h1⟩, h2⟩ := trodAll_cons h
    obtain ⟨es, g1, g2⟩ := args_open av vs' ds' q h2 fun j t u ht hu => hv (j + 1) t u ht hu
    obtain ⟨e, u, k1, k2, k3, k4, k5⟩ := a.op H enc W base sp hd fuel _ _ h1
    have e1 := a.cl W b v (hv 0 a.t v rfl rfl) e k1
    have e2 := k4.back
    rw [← k5] at e2
    rw [← e2] at e1
    subst e1
    exact ⟨e :: es, ⟨k1, g1⟩, Repl.cons k4 g2⟩
theorem holds_of {k : FuncId} {F : Func} (av : List Arg) (hp : F.params.toList = av.map Arg.t) (hg : ∀ es, Fits (av.map Arg.S) es → Gives Tryz.prog k es (.bool true)) : Holds k F := by
  intro H enc W base args ds p hval hA
  rw [hp] at hA
  obtain ⟨es, h1, h2⟩ := args_open (b := base) av args.toList ds p hA fun j t v ht hv => hval j t v (by rw [← Array.getElem?_toList, hp]; exact ht) (by simpa using hv)
  have hI : Inv (ctx W (live W) []) (live W) [] W := ⟨by simp, by simp [blks], by simp [blks], fun a ha => ha, Grow.refl _ _, fun a ha => .inl ha, rfl, rfl, rfl, Nat.le_refl _, fun b _ _ => rfl⟩
  refine (hg es h1 W (live W) args.toList hI h2).mono ?_
  rintro e w' (⟨v, d, σ, q, rfl, rfl, hr, hi⟩ | ⟨_, _, _, _, _, hx, _⟩)
  rotate_left
  · exact hx.elim
  simp only [Rep] at hr
  subst hr
  exact Ret.mk rfl ⟨hi.os, hi.tape, hi.output, hi.size, fun b hb => hi.block b hb (by simp [ctx, blks])⟩
end Go.Proofs.YtbdhjkneoandiaaGreat


namespace Go.Proofs.YtbdhjkneoandiaaGreat
set_option maxRecDepth 100000
open Go.ChangeShapes Go.WideShapes Go.ChangeAt Go.RowKit

theorem op_instr : Op 44 7 fun d => ∃ r, d = enc_S_api_Instr r :=
  (op_struct Tryz.underlying44 [fun d => ∃ n, d = .int .i64 n, fun d => ∃ n, d = .int .i64 n, fun d => ∃ n, d = .int .i64 n, fun d => ∃ g, d = encG g, fun d => ∃ l : List T, d = .lst (l.map encT)] ⟨op_i64 Tryz.underlying3, op_i64 Tryz.underlying3, op_i64 Tryz.underlying3, op_goal, op_terms, trivial⟩ (by kernel_rfl) (by kernel_rfl) (by kernel_rfl)).to fun d ⟨ds, hd, h⟩ => by
    match ds, h with
    | [_, _, _, _, _], ⟨⟨a, rfl⟩, ⟨b, rfl⟩, ⟨c, rfl⟩, ⟨g, rfl⟩, ⟨l, rfl⟩, _⟩ => exact ⟨⟨a, b, c, g, l⟩, hd⟩
theorem op_code : Op 24 1 fun d => ∃ l : List S_api_Instr, d = .lst (l.map enc_S_api_Instr) := op_list Tryz.underlying24 (by kernel_rfl) (by omega) op_instr
theorem op_bool' {t : TypeId} (ht : (Tryz.prog).underlying t = some .bool) : Op t 1 fun d => ∃ b, d = .bool b := op_bool ht
theorem op_occ : Op 23 3 fun d => ∃ r, d = enc_S_api_Occ r :=
  (op_struct Tryz.underlying23 [fun d => ∃ n, d = .int .i64 n, fun d => ∃ n, d = .int .i64 n, fun d => ∃ b, d = .bool b] ⟨op_i64 Tryz.underlying3, op_i64 Tryz.underlying3, op_bool' Tryz.underlying4, trivial⟩ (by kernel_rfl) (by kernel_rfl) (by kernel_rfl)).to fun d ⟨ds, hd, h⟩ => by
    match ds, h with
    | [_, _, _], ⟨⟨a, rfl⟩, ⟨b, rfl⟩, ⟨c, rfl⟩, _⟩ => exact ⟨⟨a, b, c⟩, hd⟩
theorem op_block : Op 26 4 fun d => ∃ r, d = enc_S_api_Block r :=
  (op_struct Tryz.underlying26 [fun d => ∃ r, d = enc_S_api_Occ r, fun d => ∃ l : List S_api_Instr, d = .lst (l.map enc_S_api_Instr)] ⟨op_occ, op_code, trivial⟩ (by kernel_rfl) (by kernel_rfl) (by kernel_rfl)).to fun d ⟨ds, hd, h⟩ => by
    match ds, h with
    | [_, _], ⟨⟨a, rfl⟩, ⟨b, rfl⟩, _⟩ => exact ⟨⟨a, b⟩, hd⟩
theorem op_blocks : Op 55 1 fun d => ∃ l : List S_api_Block, d = .lst (l.map enc_S_api_Block) := op_list Tryz.underlying55 (by kernel_rfl) (by omega) op_block
theorem op_unit : Op 57 5 fun d => ∃ r, d = enc_S_api_Unit r :=
  (op_struct Tryz.underlying57 [fun d => ∃ s, d = .str s, fun d => ∃ n, d = .int .i64 n, fun d => ∃ l : List S_api_Block, d = .lst (l.map enc_S_api_Block), fun d => ∃ b, d = .bool b, fun d => ∃ n, d = .int .i64 n] ⟨op_str Tryz.underlying9, op_i64 Tryz.underlying3, op_blocks, op_bool' Tryz.underlying4, op_i64 Tryz.underlying3, trivial⟩ (by kernel_rfl) (by kernel_rfl) (by kernel_rfl)).to fun d ⟨ds, hd, h⟩ => by
    match ds, h with
    | [_, _, _, _, _], ⟨⟨a, rfl⟩, ⟨b, rfl⟩, ⟨c, rfl⟩, ⟨g, rfl⟩, ⟨l, rfl⟩, _⟩ => exact ⟨⟨a, b, c, g, l⟩, hd⟩
theorem op_units : Op 32 1 fun d => ∃ l : List S_api_Unit, d = .lst (l.map enc_S_api_Unit) := op_list Tryz.underlying32 (by kernel_rfl) (by omega) op_unit
theorem op_access : Op 54 3 fun d => ∃ r, d = enc_S_api_Access r :=
  (op_struct Tryz.underlying54 [fun d => ∃ s, d = .str s, fun d => ∃ n, d = .int .i64 n, fun d => ∃ l : List Int, d = .lst (l.map (D.int .i64))] ⟨op_str Tryz.underlying9, op_i64 Tryz.underlying3, op_ints, trivial⟩ (by kernel_rfl) (by kernel_rfl) (by kernel_rfl)).to fun d ⟨ds, hd, h⟩ => by
    match ds, h with
    | [_, _, _], ⟨⟨a, rfl⟩, ⟨b, rfl⟩, ⟨c, rfl⟩, _⟩ => exact ⟨⟨a, b, c⟩, hd⟩
theorem op_accesses : Op 33 1 fun d => ∃ l : List S_api_Access, d = .lst (l.map enc_S_api_Access) := op_list Tryz.underlying33 (by kernel_rfl) (by omega) op_access
theorem op_image : Op 35 3 fun d => ∃ r, d = enc_S_api_Image r :=
  (op_struct Tryz.underlying35 [fun d => ∃ l : List S_api_Unit, d = .lst (l.map enc_S_api_Unit), fun d => ∃ l : List S_api_Access, d = .lst (l.map enc_S_api_Access), fun d => ∃ n, d = .int .i64 n] ⟨op_units, op_accesses, op_i64 Tryz.underlying3, trivial⟩ (by kernel_rfl) (by kernel_rfl) (by kernel_rfl)).to fun d ⟨ds, hd, h⟩ => by
    match ds, h with
    | [_, _, _], ⟨⟨a, rfl⟩, ⟨b, rfl⟩, ⟨c, rfl⟩, _⟩ => exact ⟨⟨a, b, c⟩, hd⟩
def aInstr : Arg := ⟨_, _, _, op_instr, (cl_struct Tryz.underlying44).to fun _ ⟨_, h⟩ => ⟨_, h⟩⟩
def aBlock : Arg := ⟨_, _, _, op_block, (cl_struct Tryz.underlying26).to fun _ ⟨_, h⟩ => ⟨_, h⟩⟩
def aImage : Arg := ⟨_, _, _, op_image, (cl_struct Tryz.underlying35).to fun _ ⟨_, h⟩ => ⟨_, h⟩⟩
end Go.Proofs.YtbdhjkneoandiaaGreat

