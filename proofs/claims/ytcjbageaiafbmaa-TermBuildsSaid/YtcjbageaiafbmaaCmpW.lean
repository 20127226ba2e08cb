/-
  Comparisons: their plain functions, and the walks of the comparisons of numbers, strings and kinds, of the program and of the reference.
-/
import Derived.Test.YtcjbageaiafbmaaMeas
namespace Go.Proofs.Ytcjbageaiafbmaa
open Go.RowKit

theorem less_asym : ∀ (x y : List UInt8), (!Op.bytesLess x y && !x == y) = Op.bytesLess y x
  | [], [] => by simp [Op.bytesLess]
  | a :: x, [] => by simp [Op.bytesLess]
  | [], b :: y => by simp [Op.bytesLess]
  | a :: x, b :: y => by
    have ih := less_asym x y
    simp only [Op.bytesLess, List.cons_beq_cons]
    by_cases h1 : a < b
    · have h2 : ¬ b < a := by rw [UInt8.lt_iff_toNat_lt] at *; omega
      have h3 : (b == a) = false := by rw [beq_eq_false_iff_ne]; rintro rfl; exact h2 h1
      simp [h1, h2, h3]
    · by_cases h2 : b < a
      · have h3 : (a == b) = false := by rw [beq_eq_false_iff_ne]; rintro rfl; exact h1 h2
        simp [h1, h2, h3]
      · have h3 : a = b := by
          apply UInt8.toNat_inj.1
          rw [UInt8.lt_iff_toNat_lt] at *
          omega
        subst h3
        simpa [h1] using ih
theorem string_gtr (t : TypeId) (a b : ByteArray) : binOp .gtr t (.string a) (.string b) = pure (.bool (Op.bytesLess b.toList a.toList)) := by
  have h := less_asym a.toList b.toList
  simp only [binOp]
  rw [← h]
  simp [Op.stringOp]
attribute [local go_sem] string_gtr

def cmpI (a b : Int) : Int := if a < b then -1 else if b < a then 1 else 0
def bLess (a b : ByteArray) : Bool := Op.bytesLess a.toList b.toList
def cmpS (a b : ByteArray) : Int := if bLess a b then -1 else if bLess b a then 1 else 0
def rankK (k : Int) : Int := if k = 1 then 0 else if k = 0 then 1 else if k = 2 then 2 else 3

/-- It returns this number, and the world is as it was. -/
def SameI (w : World) (n : Int) (e : Ending) (w' : World) : Prop := e = .returned (.int .i64 n) ∧ w = w'
theorem SameI.mk {w : World} {n m : Int} (h : m = n) : SameI w n (.returned (.int .i64 m)) w := ⟨by rw [h], rfl⟩
def SameB (w : World) (b : Bool) (e : Ending) (w' : World) : Prop := e = .returned (.bool b) ∧ w = w'
theorem SameB.mk {w : World} {b c : Bool} (h : c = b) : SameB w b (.returned (.bool c)) w := ⟨by rw [h], rfl⟩

theorem nanI_any (a : Int) (w : World) : Calls Try.prog 75 #[.int .i64 a] w (SameB w false) := by
  go_enter Try.func75, Try.ntmps75
  go_wp2
  go_ret
  exact SameB.mk (by simp)
theorem nanS_any (a : ByteArray) (w : World) : Calls Try.prog 76 #[.string a] w (SameB w false) := by
  go_enter Try.func76, Try.ntmps76
  go_wp2
  go_ret
  exact SameB.mk (by simp)

theorem cmpI_any (a b : Int) (w : World) : Calls Try.prog 52 #[.int .i64 a, .int .i64 b] w (SameI w (cmpI a b)) := by
  go_enter Try.func52, Try.ntmps52
  go_wp2_with fail
  refine (nanI_any _ _).mono ?_
  rintro e w1 ⟨rfl, rfl⟩
  go_wp2_with fail
  refine (nanI_any _ _).mono ?_
  rintro e w1 ⟨rfl, rfl⟩
  by_cases h1 : a < b
  · have HF : Hid (cmpI a b = -1) := by unfold cmpI; rw [if_pos h1]; exact Lib.hid rfl
    go_wp2
    go_ret
    exact SameI.mk HF.out.symm
  · by_cases h2 : b < a
    · have HF : Hid (cmpI a b = 1) := by unfold cmpI; rw [if_neg h1, if_pos h2]; exact Lib.hid rfl
      go_wp2
      go_ret
      exact SameI.mk HF.out.symm
    · have HF : Hid (cmpI a b = 0) := by unfold cmpI; rw [if_neg h1, if_neg h2]; exact Lib.hid rfl
      go_wp2
      go_ret
      exact SameI.mk HF.out.symm

theorem cmpS_any (a b : ByteArray) (w : World) : Calls Try.prog 54 #[.string a, .string b] w (SameI w (cmpS a b)) := by
  go_enter Try.func54, Try.ntmps54
  go_wp2_with fail
  refine (nanS_any _ _).mono ?_
  rintro e w1 ⟨rfl, rfl⟩
  go_wp2_with fail
  refine (nanS_any _ _).mono ?_
  rintro e w1 ⟨rfl, rfl⟩
  by_cases h1 : bLess a b = true
  · have HF : Hid (cmpS a b = -1) := by unfold cmpS; rw [if_pos h1]; exact Lib.hid rfl
    unfold bLess at h1
    go_wp2
    go_ret
    exact SameI.mk HF.out.symm
  · by_cases h2 : bLess b a = true
    · have HF : Hid (cmpS a b = 1) := by unfold cmpS; rw [if_neg h1, if_pos h2]; exact Lib.hid rfl
      have h1 : bLess a b = false := by simpa using h1
      unfold bLess at h1 h2
      go_wp2
      go_ret
      exact SameI.mk HF.out.symm
    · have HF : Hid (cmpS a b = 0) := by unfold cmpS; rw [if_neg h1, if_neg h2]; exact Lib.hid rfl
      have h1 : bLess a b = false := by simpa using h1
      have h2 : bLess b a = false := by simpa using h2
      unfold bLess at h1 h2
      go_wp2
      go_ret
      exact SameI.mk HF.out.symm

theorem rank_any (k : Int) (w : World) : Calls Try.prog 53 #[.int .i64 k] w (SameI w (rankK k)) := by
  by_cases h1 : k = 1
  · subst h1
    go_enter Try.func53, Try.ntmps53
    go_wp2
    go_ret
    exact SameI.mk rfl
  by_cases h0 : k = 0
  · subst h0
    go_enter Try.func53, Try.ntmps53
    go_wp2
    go_ret
    exact SameI.mk rfl
  by_cases h2 : k = 2
  · subst h2
    go_enter Try.func53, Try.ntmps53
    go_wp2
    go_ret
    exact SameI.mk rfl
  have HF : Hid (rankK k = 3) := by unfold rankK; rw [if_neg h1, if_neg h0, if_neg h2]; exact Lib.hid rfl
  have b1 : (k == 1) = false := by simpa using h1
  have b0 : (k == 0) = false := by simpa using h0
  have b2 : (k == 2) = false := by simpa using h2
  clear h1 h0 h2
  go_enter Try.func53, Try.ntmps53
  go_wp2
  go_ret
  exact SameI.mk HF.out.symm

theorem ints_any (a b : Int) (w : World) : Calls Try.prog 57 #[.int .i64 a, .int .i64 b] w (SameI w (cmpI a b)) := by
  by_cases h1 : a < b
  · have HF : Hid (cmpI a b = -1) := by unfold cmpI; rw [if_pos h1]; exact Lib.hid rfl
    go_enter Try.func57, Try.ntmps57
    go_wp2
    go_ret
    exact SameI.mk HF.out.symm
  · by_cases h2 : b < a
    · have HF : Hid (cmpI a b = 1) := by unfold cmpI; rw [if_neg h1, if_pos h2]; exact Lib.hid rfl
      go_enter Try.func57, Try.ntmps57
      go_wp2
      go_ret
      exact SameI.mk HF.out.symm
    · have HF : Hid (cmpI a b = 0) := by unfold cmpI; rw [if_neg h1, if_neg h2]; exact Lib.hid rfl
      go_enter Try.func57, Try.ntmps57
      go_wp2
      go_ret
      exact SameI.mk HF.out.symm

theorem texts_any (a b : ByteArray) (w : World) : Calls Try.prog 59 #[.string a, .string b] w (SameI w (cmpS a b)) := by
  by_cases h1 : bLess a b = true
  · have HF : Hid (cmpS a b = -1) := by unfold cmpS; rw [if_pos h1]; exact Lib.hid rfl
    unfold bLess at h1
    go_enter Try.func59, Try.ntmps59
    go_wp2
    go_ret
    exact SameI.mk HF.out.symm
  · by_cases h2 : bLess b a = true
    · have HF : Hid (cmpS a b = 1) := by unfold cmpS; rw [if_neg h1, if_pos h2]; exact Lib.hid rfl
      have h1 : bLess a b = false := by simpa using h1
      unfold bLess at h1 h2
      go_enter Try.func59, Try.ntmps59
      go_wp2
      go_ret
      exact SameI.mk HF.out.symm
    · have HF : Hid (cmpS a b = 0) := by unfold cmpS; rw [if_neg h1, if_neg h2]; exact Lib.hid rfl
      have h1 : bLess a b = false := by simpa using h1
      have h2 : bLess b a = false := by simpa using h2
      unfold bLess at h1 h2
      go_enter Try.func59, Try.ntmps59
      go_wp2
      go_ret
      exact SameI.mk HF.out.symm

theorem class_any (t : T) (v : Value) (w : World) (hv : VT w t v) : Calls Try.prog 58 #[v] w (Ret w (Is (.int .i64 (rankK t.k)))) := by
  obtain ⟨sl, rfl, -, -⟩ := hv.open_
  by_cases h1 : t.k = 1
  · have HF : Hid (rankK t.k = 0) := by unfold rankK; rw [if_pos h1]; exact Lib.hid rfl
    have b1 : (t.k == 1) = true := by simpa using h1
    clear h1 hv
    go_enter Try.func58, Try.ntmps58
    go_wp2
    go_ret
    rw [HF.out]
    exact Ret.mk rfl ((Ext.rfl' w).al _)
  by_cases h0 : t.k = 0
  · have HF : Hid (rankK t.k = 1) := by unfold rankK; rw [if_neg h1, if_pos h0]; exact Lib.hid rfl
    have b1 : (t.k == 1) = false := by simpa using h1
    have b0 : (t.k == 0) = true := by simpa using h0
    clear h1 h0 hv
    go_enter Try.func58, Try.ntmps58
    go_wp2
    go_ret
    rw [HF.out]
    exact Ret.mk rfl ((Ext.rfl' w).al _)
  by_cases h2 : t.k = 2
  · have HF : Hid (rankK t.k = 2) := by unfold rankK; rw [if_neg h1, if_neg h0, if_pos h2]; exact Lib.hid rfl
    have b1 : (t.k == 1) = false := by simpa using h1
    have b0 : (t.k == 0) = false := by simpa using h0
    have b2 : (t.k == 2) = true := by simpa using h2
    clear h1 h0 h2 hv
    go_enter Try.func58, Try.ntmps58
    go_wp2
    go_ret
    rw [HF.out]
    exact Ret.mk rfl ((Ext.rfl' w).al _)
  have HF : Hid (rankK t.k = 3) := by unfold rankK; rw [if_neg h1, if_neg h0, if_neg h2]; exact Lib.hid rfl
  have b1 : (t.k == 1) = false := by simpa using h1
  have b0 : (t.k == 0) = false := by simpa using h0
  have b2 : (t.k == 2) = false := by simpa using h2
  clear h1 h0 h2 hv
  go_enter Try.func58, Try.ntmps58
  go_wp2
  go_ret
  rw [HF.out]
  exact Ret.mk rfl ((Ext.rfl' w).al _)
end Go.Proofs.Ytcjbageaiafbmaa
