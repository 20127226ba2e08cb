/-
  The standard order of terms is a total order: plain lemmas, no condition.
-/
import Derived.Test.YtcjbageaiafbmaaCmp
import Derived.Test.YtcjbageaiafbmaaMeas
namespace Go.Proofs.Ytcjbageaiafbmaa
open Go.RowKit

/-- Three comparisons a with b, b with c, a with c that fit together. -/
def Tri (x y z : Int) : Prop := (x ≤ 0 → y ≤ 0 → z ≤ 0) ∧ (x < 0 → y ≤ 0 → z < 0) ∧ (x ≤ 0 → y < 0 → z < 0) ∧ (0 ≤ x → 0 ≤ y → 0 ≤ z) ∧ (0 < x → 0 ≤ y → 0 < z) ∧ (0 ≤ x → 0 < y → 0 < z)
def Sgn (x : Int) : Prop := -1 ≤ x ∧ x ≤ 1
theorem tri_or {x1 y1 z1 x2 y2 z2 : Int} (h : Tri x1 y1 z1) (k : x1 = 0 → y1 = 0 → Tri x2 y2 z2) : Tri (orI x1 x2) (orI y1 y2) (orI z1 z2) := by
  unfold orI
  by_cases a : x1 = 0
  · by_cases b : y1 = 0
    · have := k a b
      have c : z1 = 0 := by unfold Tri at h; omega
      simpa [a, b, c] using this
    · have c : z1 ≠ 0 := by unfold Tri at h; omega
      rw [if_neg (by omega), if_pos b, if_pos c]
      unfold Tri at h ⊢
      omega
  · by_cases b : y1 = 0
    · have c : z1 ≠ 0 := by unfold Tri at h; omega
      rw [if_pos a, if_neg (by omega), if_pos c]
      unfold Tri at h ⊢
      omega
    · rw [if_pos a, if_pos b]
      by_cases c : z1 = 0
      · rw [if_neg (by omega)]
        unfold Tri at h ⊢
        omega
      · rw [if_pos c]; exact h
theorem tri_I (a b c : Int) : Tri (cmpI a b) (cmpI b c) (cmpI a c) := by
  unfold Tri cmpI
  repeat' split
  all_goals omega
theorem sgn_I (a b : Int) : Sgn (cmpI a b) := by unfold Sgn cmpI; repeat' split <;> omega
theorem neg_I (a b : Int) : cmpI b a = - cmpI a b := by unfold cmpI; repeat' split <;> omega
theorem sgn_or {x y : Int} (h : Sgn x) (k : Sgn y) : Sgn (orI x y) := by unfold orI; split <;> assumption
theorem neg_or {x y x' y' : Int} (h : x' = -x) (k : y' = -y) : orI x' y' = - orI x y := by unfold orI; subst h k; by_cases a : x = 0 <;> simp [a]

def cmpB (x y : List UInt8) : Int := if Op.bytesLess x y then -1 else if Op.bytesLess y x then 1 else 0
theorem cmpS_eq (a b : ByteArray) : cmpS a b = cmpB a.toList b.toList := rfl
theorem cmpB_cons (a b : UInt8) (x y : List UInt8) : cmpB (a :: x) (b :: y) = orI (cmpI a.toNat b.toNat) (cmpB x y) := by
  unfold cmpB cmpI orI
  simp only [Op.bytesLess]
  by_cases h1 : a < b
  · have h1' : a.toNat < b.toNat := by rwa [UInt8.lt_iff_toNat_lt] at h1
    simp [h1, h1']
  · by_cases h2 : b < a
    · have h2' : b.toNat < a.toNat := by rwa [UInt8.lt_iff_toNat_lt] at h2
      have h3 : ¬ (a == b) = true := by simp; rintro rfl; exact h1 h2
      have h4 : ¬ a.toNat < b.toNat := by omega
      have h5 : ¬ a = b := by simpa using h3
      simp [h1, h2, h2', h4, h5]
    · have h3 : a = b := by
        apply UInt8.toNat_inj.1
        rw [UInt8.lt_iff_toNat_lt] at *
        omega
      subst h3
      simp [h1]
theorem tri_B : ∀ x y z : List UInt8, Tri (cmpB x y) (cmpB y z) (cmpB x z)
  | [], [], [] => by simp [cmpB, Op.bytesLess, Tri]
  | [], [], b :: z => by simp [cmpB, Op.bytesLess, Tri]
  | [], b :: y, [] => by simp [cmpB, Op.bytesLess, Tri]
  | a :: x, [], [] => by simp [cmpB, Op.bytesLess, Tri]
  | [], b :: y, c :: z => by
    have h := tri_B [] y z
    rw [cmpB_cons]
    have e1 : cmpB [] (b :: y) = -1 := by simp [cmpB, Op.bytesLess]
    have e2 : cmpB [] (c :: z) = -1 := by simp [cmpB, Op.bytesLess]
    rw [e1, e2]
    unfold Tri; omega
  | a :: x, [], c :: z => by
    rw [cmpB_cons]
    have e1 : cmpB [] (c :: z) = -1 := by simp [cmpB, Op.bytesLess]
    have e2 : cmpB (a :: x) [] = 1 := by simp [cmpB, Op.bytesLess]
    rw [e1, e2]
    unfold Tri; omega
  | a :: x, b :: y, [] => by
    rw [cmpB_cons]
    have e1 : cmpB (a :: x) [] = 1 := by simp [cmpB, Op.bytesLess]
    have e2 : cmpB (b :: y) [] = 1 := by simp [cmpB, Op.bytesLess]
    rw [e1, e2]
    unfold Tri; omega
  | a :: x, b :: y, c :: z => by
    rw [cmpB_cons, cmpB_cons, cmpB_cons]
    exact tri_or (tri_I _ _ _) fun _ _ => tri_B x y z
theorem sgn_B (x y : List UInt8) : Sgn (cmpB x y) := by unfold Sgn cmpB; repeat' split <;> omega
theorem neg_B : ∀ x y : List UInt8, cmpB y x = - cmpB x y
  | [], [] => by decide
  | [], b :: y => by simp [cmpB, Op.bytesLess]
  | a :: x, [] => by simp [cmpB, Op.bytesLess]
  | a :: x, b :: y => by
    rw [cmpB_cons, cmpB_cons]
    exact neg_or (neg_I _ _) (neg_B x y)

/-- Any three lists, as long as the common part is concerned. -/
theorem tri_L {n : Nat} (H : ∀ a b c : T, wt a ≤ n → Tri (cmpT a b) (cmpT b c) (cmpT a c)) : ∀ a b c : List T, wtL a ≤ n → a.length = b.length → b.length = c.length → Tri (cmpL a b) (cmpL b c) (cmpL a c)
  | [], [], [], _, _, _ => by simp [cmpL, Tri]
  | t :: a, u :: b, v :: c, h, h1, h2 => by
    simp only [wtL] at h
    rw [cmpL_cons, cmpL_cons, cmpL_cons]
    exact tri_or (H t u v (by omega)) fun _ _ => tri_L H a b c (by omega) (by simpa using h1) (by simpa using h2)
  | [], _ :: _, _, _, h1, _ => by simp at h1
  | _ :: _, [], _, _, h1, _ => by simp at h1
  | _, [], _ :: _, _, _, h2 => by simp at h2
  | _, _ :: _, [], _, _, h2 => by simp at h2
theorem tri_T : ∀ (n : Nat) (a b c : T), wt a ≤ n → Tri (cmpT a b) (cmpT b c) (cmpT a c)
  | 0, a, _, _, h => by rw [wt_eq] at h; omega
  | n + 1, a, b, c, h => by
    rw [cmpT_eq, cmpT_eq, cmpT_eq]
    refine tri_or (tri_I _ _ _) fun h1 h2 => ?_
    have e1 := cmpI_zero h1
    have e2 := cmpI_zero h2
    rw [← e1]
    rw [← e1] at e2
    by_cases c1 : rankK a.k = 0 ∨ rankK a.k = 1
    · rw [if_pos c1, if_pos c1, if_pos c1]; exact tri_I _ _ _
    rw [if_neg c1, if_neg c1, if_neg c1]
    by_cases c2 : rankK a.k = 2
    · rw [if_pos c2, if_pos c2, if_pos c2]
      refine tri_or (tri_I _ _ _) fun l1 l2 => tri_or (tri_B _ _ _) fun _ _ => ?_
      have l1 := cmpI_zero l1
      have l2 := cmpI_zero l2
      exact tri_L (fun a b c h => tri_T n a b c h) _ _ _ (by rw [wt_eq] at h; omega) (by omega) (by omega)
    · rw [if_neg c2, if_neg c2, if_neg c2]
      exact tri_or (tri_I _ _ _) fun _ _ => tri_or (tri_I _ _ _) fun _ _ => tri_B _ _ _
theorem neg_L {n : Nat} (H : ∀ a b : T, wt a ≤ n → cmpT b a = - cmpT a b) : ∀ a b : List T, wtL a ≤ n → cmpL b a = - cmpL a b
  | [], [], _ => by simp [cmpL]
  | [], _ :: _, _ => by simp [cmpL]
  | _ :: _, [], _ => by simp [cmpL]
  | t :: a, u :: b, h => by
    simp only [wtL] at h
    rw [cmpL_cons, cmpL_cons]
    exact neg_or (H t u (by omega)) (neg_L H a b (by omega))
theorem neg_T : ∀ (n : Nat) (a b : T), wt a ≤ n → cmpT b a = - cmpT a b
  | 0, a, _, h => by rw [wt_eq] at h; omega
  | n + 1, a, b, h => by
    rw [cmpT_eq, cmpT_eq a b]
    by_cases e : rankK a.k = rankK b.k
    · refine neg_or (neg_I _ _) ?_
      rw [← e]
      by_cases c1 : rankK a.k = 0 ∨ rankK a.k = 1
      · rw [if_pos c1, if_pos c1]; exact neg_I _ _
      rw [if_neg c1, if_neg c1]
      by_cases c2 : rankK a.k = 2
      · rw [if_pos c2, if_pos c2]
        exact neg_or (neg_I _ _) (neg_or (neg_B _ _) (neg_L (fun a b h => neg_T n a b h) _ _ (by rw [wt_eq] at h; omega)))
      · rw [if_neg c2, if_neg c2]
        exact neg_or (neg_I _ _) (neg_or (neg_I _ _) (neg_B _ _))
    · have h1 : cmpI (rankK a.k) (rankK b.k) ≠ 0 := fun h => e (cmpI_zero h)
      have h2 := neg_I (rankK a.k) (rankK b.k)
      unfold orI
      rw [if_pos (by omega), if_pos h1, h2]
theorem sgn_L {n : Nat} (H : ∀ a b : T, wt a ≤ n → Sgn (cmpT a b)) : ∀ a b : List T, wtL a ≤ n → Sgn (cmpL a b)
  | [], _, _ => by simp [cmpL, Sgn]
  | _ :: _, [], _ => by simp [cmpL, Sgn]
  | t :: a, u :: b, h => by
    simp only [wtL] at h
    rw [cmpL_cons]
    exact sgn_or (H t u (by omega)) (sgn_L H a b (by omega))
theorem sgn_T : ∀ (n : Nat) (a b : T), wt a ≤ n → Sgn (cmpT a b)
  | 0, a, _, h => by rw [wt_eq] at h; omega
  | n + 1, a, b, h => by
    rw [cmpT_eq a b]
    refine sgn_or (sgn_I _ _) ?_
    repeat' split
    · exact sgn_I _ _
    · exact sgn_or (sgn_I _ _) (sgn_or (sgn_B _ _) (sgn_L (fun a b h => sgn_T n a b h) _ _ (by rw [wt_eq] at h; omega)))
    · exact sgn_or (sgn_I _ _) (sgn_or (sgn_I _ _) (sgn_B _ _))

theorem cmp_tri (a b c : T) : Tri (cmpT a b) (cmpT b c) (cmpT a c) := tri_T _ a b c (Nat.le_refl _)
theorem cmp_neg (a b : T) : cmpT b a = - cmpT a b := neg_T _ a b (Nat.le_refl _)
theorem cmp_sgn (a b : T) : Sgn (cmpT a b) := sgn_T _ a b (Nat.le_refl _)
theorem cmp_self (a : T) : cmpT a a = 0 := by have := cmp_neg a a; omega
/-- What is equal compares alike with everything. -/
theorem cmp_zero {a b : T} (c : T) (h : cmpT a b = 0) : cmpT c a = cmpT c b := by
  have h1 := cmp_tri c a b
  have h2 := cmp_sgn c a
  have h3 := cmp_sgn c b
  unfold Tri Sgn at *
  omega
theorem cmpL_self : ∀ l : List T, cmpL l l = 0
  | [] => by simp [cmpL]
  | t :: l => by rw [cmpL_cons, cmp_self, cmpL_self l]; rfl
end Go.Proofs.Ytcjbageaiafbmaa
