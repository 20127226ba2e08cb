/-
  The measure by which the statements leave great terms out: its plain function, what it bounds, and its walk.
-/
import Derived.Test.YtcjbageaiafbmaaTerm
import Derived.Test.YtcjbageaiafbmaaSched
namespace Go.Proofs.Ytcjbageaiafbmaa
open Go.RowKit

/-- What is left of so many nodes; below 0: there are more, or a deeper nesting. -/
def weighF : Nat → List T → Int → Int
  | 0, _, _ => -1
  | d + 1, l, left => if left < (l.length : Int) then -1 else l.foldl (fun left t => if left < 0 then left else weighF d t.ar (left - 1 - (t.s.size / 8 : Nat))) left

theorem weighF_ge : ∀ (d : Nat) (l : List T) (left : Int), -1 ≤ weighF d l left
  | 0, _, _ => by simp [weighF]
  | d + 1, l, left => by
    unfold weighF
    split
    · omega
    · rename_i h
      have hf : ∀ (l : List T) (left : Int), -1 ≤ left → -1 ≤ l.foldl (fun left t => if left < 0 then left else weighF d t.ar (left - 1 - (t.s.size / 8 : Nat))) left := by
        intro l
        induction l with
        | nil => intro left h; exact h
        | cons t l ih =>
          intro left h
          rw [List.foldl_cons]
          apply ih
          split
          · exact h
          · exact weighF_ge d _ _
      exact hf l left (by omega)
theorem weigh_neg (f : Int → T → Int) : ∀ (l : List T) (left : Int), left < 0 → l.foldl (fun left t => if left < 0 then left else f left t) left = left
  | [], _, _ => rfl
  | t :: l, left, h => by rw [List.foldl_cons, if_pos h, weigh_neg f l left h]
theorem weighF_le : ∀ (d : Nat) (l : List T) (left : Int), 0 ≤ left → weighF d l left ≤ left
  | 0, _, _, h => by simp [weighF]; omega
  | d + 1, l, left, h => by
    unfold weighF
    split
    · omega
    · have hf : ∀ (l : List T) (left : Int), -1 ≤ left → l.foldl (fun left t => if left < 0 then left else weighF d t.ar (left - 1 - (t.s.size / 8 : Nat))) left ≤ left := by
        intro l
        induction l with
        | nil => intro left _; exact Int.le_refl _
        | cons t l ih =>
          intro left h
          rw [List.foldl_cons]
          split
          · exact ih left h
          · rename_i h0
            refine Int.le_trans (ih _ (weighF_ge _ _ _)) ?_
            by_cases h1 : 0 ≤ left - 1 - (t.s.size / 8 : Nat)
            · have := weighF_le d t.ar _ h1
              omega
            · cases d with
              | zero => simp [weighF]; omega
              | succ d => unfold weighF; rw [if_pos (by omega)]; omega
      exact hf l left (by omega)
end Go.Proofs.Ytcjbageaiafbmaa
