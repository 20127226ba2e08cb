/-
  Constraints and goals as data; the walks of Great and of the program's RightAtom and RightGoal.
-/
import Derived.Test.YtcjbageaiafbmaaRightA
import Derived.Test.YtcjbageaiafbmaaWeighW
namespace Go.Proofs.Ytcjbageaiafbmaa
open Go.RowKit

/-- A constraint: its name and its arguments. -/
structure At where
  n : ByteArray
  ts : List T
/-- A goal: its operator, its name, its arguments. -/
structure Gl where
  op : Int
  n : ByteArray
  ts : List T

def CA (w : World) (a : At) (cs : List Value) : Prop := ∃ sl, cs = [.string a.n, sl] ∧ SlT w a.ts sl ∧ a.n.size ≤ 9223372036854775807
def CG (w : World) (g : Gl) (cs : List Value) : Prop := ∃ sl, cs = [.int .i64 g.op, .string g.n, sl] ∧ SlT w g.ts sl ∧ I64 g.op ∧ g.n.size ≤ 9223372036854775807
def VA (w : World) (a : At) (v : Value) : Prop := ∃ cs, v = .agg cs.toArray ∧ CA w a cs
def VG (w : World) (g : Gl) (v : Value) : Prop := ∃ cs, v = .agg cs.toArray ∧ CG w g cs
theorem VA.open_ {w : World} {a : At} {v : Value} (h : VA w a v) : ∃ sl, v = .agg #[.string a.n, sl] ∧ SlT w a.ts sl ∧ a.n.size ≤ 9223372036854775807 := by
  obtain ⟨cs, rfl, sl, rfl, h1, h2⟩ := h
  exact ⟨sl, rfl, h1, h2⟩
theorem VG.open_ {w : World} {g : Gl} {v : Value} (h : VG w g v) : ∃ sl, v = .agg #[.int .i64 g.op, .string g.n, sl] ∧ SlT w g.ts sl ∧ I64 g.op ∧ g.n.size ≤ 9223372036854775807 := by
  obtain ⟨cs, rfl, sl, rfl, h1, h2, h3⟩ := h
  exact ⟨sl, rfl, h1, h2, h3⟩
theorem VA.mk {w : World} {n : ByteArray} {ts : List T} {sl : Value} (h : SlT w ts sl) (hs : n.size ≤ 9223372036854775807) : VA w ⟨n, ts⟩ (.agg #[.string n, sl]) := ⟨[.string n, sl], rfl, sl, rfl, h, hs⟩
theorem VG.mk {w : World} {op : Int} {n : ByteArray} {ts : List T} {sl : Value} (h : SlT w ts sl) (ho : I64 op) (hs : n.size ≤ 9223372036854775807) : VG w ⟨op, n, ts⟩ (.agg #[.int .i64 op, .string n, sl]) := ⟨[.int .i64 op, .string n, sl], rfl, sl, rfl, h, ho, hs⟩
theorem CA.ext {w w' : World} {a : At} {cs : List Value} (h : CA w a cs) (e : Ext w w') : CA w' a cs := let ⟨sl, h1, h2, h3⟩ := h; ⟨sl, h1, h2.ext e, h3⟩
theorem CG.ext {w w' : World} {g : Gl} {cs : List Value} (h : CG w g cs) (e : Ext w w') : CG w' g cs := let ⟨sl, h1, h2, h3⟩ := h; ⟨sl, h1, h2.ext e, h3⟩
theorem VA.ext {w w' : World} {a : At} {v : Value} (h : VA w a v) (e : Ext w w') : VA w' a v := let ⟨cs, h1, h2⟩ := h; ⟨cs, h1, h2.ext e⟩
theorem VG.ext {w w' : World} {g : Gl} {v : Value} (h : VG w g v) (e : Ext w w') : VG w' g v := let ⟨cs, h1, h2⟩ := h; ⟨cs, h1, h2.ext e⟩

theorem great_any (l : List T) (v : Value) (most : Int) (w : World) (hv : SlT w l v) (h1 : -9223372036854775808 ≤ most) (h2 : most ≤ 1000000) :
    Calls Try.prog 10 #[v, .int .i64 most] w (Ret w (Is (.bool (decide (weighF 64 l most < 0))))) := by
  have hC := hide (weigh_any 64 l v most 64 w hv rfl (by omega) h1 h2)
  obtain ⟨A, c, xs, rfl, -⟩ := hv
  clear h1 h2
  go_enter Try.func10, Try.ntmps10
  go_wp2_with fail
  refine (unhide hC).mono ?_
  rintro e w1 ⟨v, rfl, hv, he⟩
  obtain rfl : v = _ := hv
  go_wp2
  go_ret
  exact Ret.mk rfl he

/-- A valid constraint. -/
noncomputable def rightA (a : At) : Bool := isName a.n && decide (a.ts.length ≤ 6) && rightL a.ts
/-- How many arguments an operator has that is no call; -1: there is no such operator. -/
def arityG (op : Int) : Int := if op = 1 ∨ op = 2 then 0 else if op = 11 ∨ op = 12 then 1 else if 2 < op ∧ op < 11 then 2 else -1
/-- A valid goal. -/
noncomputable def rightG (g : Gl) : Bool := if g.op = 0 then rightA ⟨g.n, g.ts⟩ else decide (g.n.toList = []) && decide (arityG g.op = (g.ts.length : Int)) && rightL g.ts

theorem rightAtom_any (n : Nat) (hM : n ≤ 1000000) (a : At) (v : Value) (w : World) (hn : wtL a.ts ≤ n) (hv : VA w a v) : Calls Try.prog 33 #[v] w (Ret w (Is (.bool (rightA a)))) := by
  obtain ⟨sl, rfl, hs, -⟩ := hv.open_
  have hC := hide (fun (w' : World) (e : Ext w w') (hb : Boxed w' (w.heap.size + 1) 58 (.int .i64 200)) => all_any w (w.heap.size + 1) (by omega) n hM a.ts sl 200 20 w' hn hs e hb (by omega) (by omega) (by omega) (by omega))
  obtain ⟨A, c, xs, rfl, -⟩ := hs
  have hnm := hide (name_any a.n)
  clear hv hn
  by_cases hj : isName a.n
  · rw [hj] at hnm
    by_cases h6 : a.ts.length ≤ 6
    · have HR : Hid (rightA a = rightL a.ts) := Lib.hid (by unfold rightA; simp [hj, h6])
      have HL := Lib.hid (rightL_iff a.ts)
      have h6' : (a.ts.length : Int) ≤ 6 := by omega
      clear hj h6
      go_enter Try.func33, Try.ntmps33
      go_wp2_with fail
      have hb0 := boxed2 w (.cells #[.string a.n, .slice A a.ts.length c] 46) 58 (.int .i64 200)
      refine ((unhide hnm) _).mono ?_
      rintro e w1 ⟨v, rfl, hv, he1⟩
      obtain rfl : v = _ := hv
      have z1 := he1.cellOf (((Ext.rfl' _).al _).cellOf (box_cells w #[.string a.n, .slice A a.ts.length c] 46 1 _ rfl))
      have hb1 := (he1.block _ hb0.lt).trans hb0
      have HE := hide ((((Ext.rfl' w).al _).al _).tr he1)
      clear hb0 he1
      go_wp2_with fail
      refine ((unhide hC) _ (unhide HE) hb1).mono ?_
      rintro e w2 ⟨r, rfl, hr, he2, -⟩
      have hr := hide hr
      have he2 := hide he2
      go_wp2
      go_ret
      refine Ret.mk ?_ (unhide he2)
      show Value.bool _ = Value.bool _
      congr 1
      rw [HR.out, Bool.eq_iff_iff, HL.out, unhide hr]
    · have HR : Hid (rightA a = false) := Lib.hid (by unfold rightA; simp [h6])
      have h6' : ¬ (a.ts.length : Int) ≤ 6 := by omega
      clear hj h6
      go_enter Try.func33, Try.ntmps33
      go_wp2_with fail
      refine ((unhide hnm) _).mono ?_
      rintro e w1 ⟨v, rfl, hv, he1⟩
      obtain rfl : v = _ := hv
      have z1 := he1.cellOf (((Ext.rfl' _).al _).cellOf (box_cells w #[.string a.n, .slice A a.ts.length c] 46 1 _ rfl))
      have HE := hide ((((Ext.rfl' w).al _).al _).tr he1)
      clear he1
      go_wp2
      go_ret
      exact Ret.mk (HR.out ▸ rfl) (unhide HE)
  · have hj' : isName a.n = false := by simpa using hj
    rw [hj'] at hnm
    have HR : Hid (rightA a = false) := Lib.hid (by unfold rightA; simp [hj])
    clear hj hj'
    go_enter Try.func33, Try.ntmps33
    go_wp2_with fail
    refine ((unhide hnm) _).mono ?_
    rintro e w1 ⟨v, rfl, hv, he1⟩
    obtain rfl : v = _ := hv
    have HE := hide ((((Ext.rfl' w).al _).al _).tr he1)
    clear he1
    go_wp2
    go_ret
    exact Ret.mk (HR.out ▸ rfl) (unhide HE)

set_option maxHeartbeats 2000000 in
/-- The tail of RightGoal: no call. -/
theorem rightGoal_tail (n : Nat) (hM : n ≤ 1000000) (g : Gl) (v : Value) (w : World) (hn : wtL g.ts ≤ n) (hv : VG w g v) (h0 : g.op ≠ 0) : Calls Try.prog 26 #[v] w (Ret w (Is (.bool (rightG g)))) := by
  obtain ⟨sl, rfl, hs, -⟩ := hv.open_
  obtain ⟨A, c, xs, rfl, hr⟩ := hs
  have hC := hide (fun (L : Nat) (hL : g.ts.length = L) (w' : World) (e : Ext w w') (hb : Boxed w' (w.heap.size + 1) 58 (.int .i64 200)) => all_any w (w.heap.size + 1) (by omega) n hM g.ts (.slice A L c) 200 20 w' hn ⟨A, c, xs, by rw [hL], hr⟩ e hb (by omega) (by omega) (by omega) (by omega))
  have hb0 := hide (fun o => boxed2 w o 58 (.int .i64 200))
  have HE := hide (fun o => ((Ext.rfl' w).al o).al (.cells #[.int .i64 200] 58))
  have HR : Hid (rightG g = (decide (g.n.toList = []) && decide (arityG g.op = (g.ts.length : Int)) && rightL g.ts)) := Lib.hid (by unfold rightG; rw [if_neg h0])
  have HL := Lib.hid (rightL_iff g.ts)
  have HF : Hid (¬ (arityG g.op = (g.ts.length : Int) ∧ g.n.toList = []) → rightG g = false) := Lib.hid fun h => by
    rw [HR.out]
    by_cases h1 : arityG g.op = (g.ts.length : Int)
    · have h2 : ¬ g.n.toList = [] := fun h2 => h ⟨h1, h2⟩
      simp [h2]
    · simp [h1]
  have HT : Hid (∀ r : Bool, arityG g.op = (g.ts.length : Int) → g.n.toList = [] → (r = true ↔ HoldsL g.ts 200 20) → r = rightG g) := Lib.hid fun r h1 h2 h3 => by
    rw [HR.out, Bool.eq_iff_iff, h3, ← HL.out]
    simp [h1, h2]
  have k0 : (g.op == 0) = false := by simpa using h0
  clear hv hn hr

  by_cases k : g.op = 1
  · have HA : Hid (arityG g.op = 0) := Lib.hid (by rw [k]; decide)
    have k' : (g.op == 1) = true := by simpa using k
    have hp : 0 < g.op := by omega
    have hq : g.op ≤ 12 := by omega
    clear h0 k
    go_enter Try.func26, Try.ntmps26
    go_wp2_with fail
    · have h1 : g.n.toList = [] := by assumption
      refine ((unhide hC) _ (by simp [*]) _ ((unhide HE) _) ((unhide hb0) _)).mono ?_
      rintro e w2 ⟨r, rfl, hr, he2, -⟩
      have hr := hide hr
      have he2 := hide he2
      have HX := Lib.hid (HT.out r (by rw [HA.out]; simp [*]) h1 (unhide hr))
      go_wp2
      go_ret
      exact Ret.mk (HX.out ▸ rfl) (unhide he2)
    · rename_i h1 h2
      have HX := Lib.hid (HF.out fun h => by have := h.1; rw [HA.out] at this; first | omega | exact h2 (List.length_eq_zero_iff.1 (by omega)))
      clear h1 h2
      go_ret
      exact Ret.mk (HX.out ▸ rfl) ((unhide HE) _)
    · rename_i h1
      have HX := Lib.hid (HF.out fun h => h1 h.2)
      clear h1
      go_ret
      exact Ret.mk (HX.out ▸ rfl) ((unhide HE) _)
  by_cases k : g.op = 2
  · have HA : Hid (arityG g.op = 0) := Lib.hid (by rw [k]; decide)
    have k' : (g.op == 2) = true := by simpa using k
    have hp : 0 < g.op := by omega
    have hq : g.op ≤ 12 := by omega
    clear h0 k
    go_enter Try.func26, Try.ntmps26
    go_wp2_with fail
    · have h1 : g.n.toList = [] := by assumption
      refine ((unhide hC) _ (by simp [*]) _ ((unhide HE) _) ((unhide hb0) _)).mono ?_
      rintro e w2 ⟨r, rfl, hr, he2, -⟩
      have hr := hide hr
      have he2 := hide he2
      have HX := Lib.hid (HT.out r (by rw [HA.out]; simp [*]) h1 (unhide hr))
      go_wp2
      go_ret
      exact Ret.mk (HX.out ▸ rfl) (unhide he2)
    · rename_i h1 h2
      have HX := Lib.hid (HF.out fun h => by have := h.1; rw [HA.out] at this; first | omega | exact h2 (List.length_eq_zero_iff.1 (by omega)))
      clear h1 h2
      go_ret
      exact Ret.mk (HX.out ▸ rfl) ((unhide HE) _)
    · rename_i h1
      have HX := Lib.hid (HF.out fun h => h1 h.2)
      clear h1
      go_ret
      exact Ret.mk (HX.out ▸ rfl) ((unhide HE) _)
  by_cases k : g.op = 11
  · have HA : Hid (arityG g.op = 1) := Lib.hid (by rw [k]; decide)
    have k' : (g.op == 11) = true := by simpa using k
    have hp : 0 < g.op := by omega
    have hq : g.op ≤ 12 := by omega
    clear h0 k
    go_enter Try.func26, Try.ntmps26
    go_wp2_with fail
    · have h1 : g.n.toList = [] := by assumption
      refine ((unhide hC) _ (by simp [*]) _ ((unhide HE) _) ((unhide hb0) _)).mono ?_
      rintro e w2 ⟨r, rfl, hr, he2, -⟩
      have hr := hide hr
      have he2 := hide he2
      have HX := Lib.hid (HT.out r (by rw [HA.out]; simp [*]) h1 (unhide hr))
      go_wp2
      go_ret
      exact Ret.mk (HX.out ▸ rfl) (unhide he2)
    · rename_i h1 h2
      have HX := Lib.hid (HF.out fun h => by have := h.1; rw [HA.out] at this; first | omega | exact h2 (List.length_eq_zero_iff.1 (by omega)))
      clear h1 h2
      go_ret
      exact Ret.mk (HX.out ▸ rfl) ((unhide HE) _)
    · rename_i h1
      have HX := Lib.hid (HF.out fun h => h1 h.2)
      clear h1
      go_ret
      exact Ret.mk (HX.out ▸ rfl) ((unhide HE) _)
  by_cases k : g.op = 12
  · have HA : Hid (arityG g.op = 1) := Lib.hid (by rw [k]; decide)
    have k' : (g.op == 12) = true := by simpa using k
    have hp : 0 < g.op := by omega
    have hq : g.op ≤ 12 := by omega
    clear h0 k
    go_enter Try.func26, Try.ntmps26
    go_wp2_with fail
    · have h1 : g.n.toList = [] := by assumption
      refine ((unhide hC) _ (by simp [*]) _ ((unhide HE) _) ((unhide hb0) _)).mono ?_
      rintro e w2 ⟨r, rfl, hr, he2, -⟩
      have hr := hide hr
      have he2 := hide he2
      have HX := Lib.hid (HT.out r (by rw [HA.out]; simp [*]) h1 (unhide hr))
      go_wp2
      go_ret
      exact Ret.mk (HX.out ▸ rfl) (unhide he2)
    · rename_i h1 h2
      have HX := Lib.hid (HF.out fun h => by have := h.1; rw [HA.out] at this; first | omega | exact h2 (List.length_eq_zero_iff.1 (by omega)))
      clear h1 h2
      go_ret
      exact Ret.mk (HX.out ▸ rfl) ((unhide HE) _)
    · rename_i h1
      have HX := Lib.hid (HF.out fun h => h1 h.2)
      clear h1
      go_ret
      exact Ret.mk (HX.out ▸ rfl) ((unhide HE) _)
  have k1 : (g.op == 1) = false := by simp; omega
  have k2 : (g.op == 2) = false := by simp; omega
  have k3 : (g.op == 11) = false := by simp; omega
  have k4 : (g.op == 12) = false := by simp; omega
  by_cases hp : 0 < g.op
  · by_cases hq : g.op ≤ 12
    · have HA : Hid (arityG g.op = 2) := Lib.hid (by unfold arityG; rw [if_neg (by omega), if_neg (by omega), if_pos (by omega)])
      clear h0
      go_enter Try.func26, Try.ntmps26
      go_wp2_with fail
      · have h1 : g.n.toList = [] := by assumption
        refine ((unhide hC) _ (by omega) _ ((unhide HE) _) ((unhide hb0) _)).mono ?_
        rintro e w2 ⟨r, rfl, hr, he2, -⟩
        have hr := hide hr
        have he2 := hide he2
        have HX := Lib.hid (HT.out r (by rw [HA.out]; omega) h1 (unhide hr))
        go_wp2
        go_ret
        exact Ret.mk (HX.out ▸ rfl) (unhide he2)
      · rename_i h1 h2
        have HX := Lib.hid (HF.out fun h => by have := h.1; rw [HA.out] at this; omega)
        clear h1 h2
        go_ret
        exact Ret.mk (HX.out ▸ rfl) ((unhide HE) _)
      · rename_i h1
        have HX := Lib.hid (HF.out fun h => h1 h.2)
        clear h1
        go_ret
        exact Ret.mk (HX.out ▸ rfl) ((unhide HE) _)
    · have HX := Lib.hid (HF.out fun h => by
        have := h.1
        unfold arityG at this
        rw [if_neg (by omega), if_neg (by omega), if_neg (by omega)] at this
        omega)
      clear h0
      go_enter Try.func26, Try.ntmps26
      go_wp2
      go_ret
      exact Ret.mk (HX.out ▸ rfl) ((unhide HE) _)
  · have HX := Lib.hid (HF.out fun h => by
      have := h.1
      unfold arityG at this
      rw [if_neg (by omega), if_neg (by omega), if_neg (by omega)] at this
      omega)
    clear h0
    go_enter Try.func26, Try.ntmps26
    go_wp2
    go_ret
    exact Ret.mk (HX.out ▸ rfl) ((unhide HE) _)
theorem rightGoal_any (n : Nat) (hM : n ≤ 1000000) (g : Gl) (v : Value) (w : World) (hn : wtL g.ts ≤ n) (hv : VG w g v) : Calls Try.prog 26 #[v] w (Ret w (Is (.bool (rightG g)))) := by
  by_cases h0 : g.op = 0
  · have HR : Hid (rightG g = rightA ⟨g.n, g.ts⟩) := Lib.hid (by unfold rightG; rw [if_pos h0])
    obtain ⟨sl, rfl, hs, ho, hz⟩ := hv.open_
    have hC := hide (fun (w' : World) (e : Ext w w') => rightAtom_any n hM ⟨g.n, g.ts⟩ _ w' hn (VA.mk (hs.ext e) hz))
    have HE := hide (fun o => (Ext.rfl' w).al o)
    obtain ⟨A, c, xs, rfl, -⟩ := hs
    have k0 : (g.op == 0) = true := by simpa using h0
    clear h0 hv hn ho hz
    go_enter Try.func26, Try.ntmps26
    go_wp2_with fail
    refine ((unhide hC) _ ((unhide HE) _)).mono ?_
    rintro e w1 ⟨v, rfl, hv, he⟩
    obtain rfl : v = _ := hv
    have he := hide (((unhide HE) _).tr he)
    go_wp2
    go_ret
    exact Ret.mk (HR.out ▸ rfl) (unhide he)
  · exact rightGoal_tail n hM g v w hn hv h0
end Go.Proofs.Ytcjbageaiafbmaa
