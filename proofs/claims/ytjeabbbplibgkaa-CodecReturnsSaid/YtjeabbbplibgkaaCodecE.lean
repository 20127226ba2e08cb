/-
  Conversions of bytes to a string, bytes.Equal, bytes.HasPrefix; the walks of Int, Text and Bool of the program.
-/
import Derived.Test.YtjeabbbplibgkaaCodecD
import Derived.Laws.IdiomStrings
namespace Go.Proofs.Ytjeabbbplibgkaa
open Go.RowKit

theorem run_toStr {P : Program} (w : World) (src dst e : TypeId) (hs : P.underlying src = some (.slice e)) (he : P.underlying e = some (.int .u8)) (hd : P.underlying dst = some .string)
    (A : Option Addr) (n c : Nat) (bs : List UInt8) (hr : Rd w A (bs.map bv)) (hn : bs.length = n) : (convert src dst (.slice A n c)).run P w = .ok (.string ⟨bs.toArray⟩) w := by
  subst hn
  rcases hr with h | ⟨ad, rfl, hc⟩
  · have h0 : bs = [] := by simpa using h
    subst h0
    rw [run_convert_bytes_string w src dst e _ _ c hs he hd]
    cases A <;> simp [Conv.bytesToString, loadCells]
    all_goals rfl
  · exact run_convert_bytes_back w src dst e ad c bs hs he hd fun j hj => hc j _ (by simp [hj, bv])

/-- It returns this very value, and the world is as it was. -/
def Same (w : World) (v : Value) (e : Ending) (w' : World) : Prop := e = .returned v ∧ w = w'
theorem Same.mk {w : World} {v v' : Value} (h : v = v') : Same w v' (.returned v) w := ⟨by rw [h], rfl⟩

theorem ls_eq (xs ys : List UInt8) : (xs == ys) = decide (xs = ys) := by
  rw [Bool.eq_iff_iff]; simp

theorem equal_any (A B : Option Addr) (n m c d : Nat) (xs ys : List UInt8) (w : World) (hx : Rd w A (xs.map bv)) (hy : Rd w B (ys.map bv)) (hn : Hid (xs.length = n)) (hm : Hid (ys.length = m)) :
    Calls Try.prog 9 #[.slice A n c, .slice B m d] w (Same w (.bool (decide (xs = ys)))) := by
  have e1 := run_toStr (P := Try.prog) w _ _ _ Try.underlying22 Try.underlying5 Try.underlying9 A n c xs hx hn.out
  have e2 := run_toStr (P := Try.prog) w _ _ _ Try.underlying22 Try.underlying5 Try.underlying9 B m d ys hy hm.out
  go_enter Try.func9, Try.ntmps9
  go_wp2
  go_ret
  exact Same.mk (congrArg Value.bool (ls_eq xs ys))

theorem pre_yes {xs ys : List UInt8} {m : Nat} (h : ys.length = m) : decide (xs.take m = ys) = decide (ys <+: xs) := by
  subst h
  rw [decide_eq_decide, List.prefix_iff_eq_take]
  exact eq_comm
theorem pre_no {xs ys : List UInt8} (h : xs.length < ys.length) : false = decide (ys <+: xs) := by
  symm
  rw [decide_eq_false_iff_not]
  intro hp
  have := hp.length_le
  omega

theorem prefix_any (A B : Option Addr) (n m c d : Nat) (xs ys : List UInt8) (w : World) (hx : Rd w A (xs.map bv)) (hy : Rd w B (ys.map bv)) (hn : Hid (xs.length = n)) (hm : Hid (ys.length = m)) (hc : n ≤ c) :
    Calls Try.prog 13 #[.slice A n c, .slice B m d] w (Same w (.bool (decide (ys <+: xs)))) := by
  by_cases hmn : m ≤ n
  · go_enter Try.func13, Try.ntmps13
    go_wp2_with (with_reducible refine halt_dst 14 rfl ?_)
    refine go_on (wpList_sub _ rfl _ _ _ _ rfl _ 1 Try.underlying22 (by kernel_rfl) A n c 0 m rfl (L := 0) (.inr ⟨rfl, rfl⟩) (.inl ⟨rfl, rfl⟩) (by omega) (by omega) ?_)
    go_wp2_with fail
    refine (equal_any _ _ _ _ _ _ (xs.take m) ys _ ?_ hy (Lib.hid (by rw [List.length_take, hn.out]; omega)) hm).mono ?_
    · rw [List.map_take]; exact (hx.take m).sub0
    rintro e w1 ⟨rfl, rfl⟩
    go_wp2
    go_ret
    exact Same.mk (congrArg Value.bool (pre_yes hm.out))
  · go_enter Try.func13, Try.ntmps13
    go_wp2
    go_ret
    exact Same.mk (congrArg Value.bool (pre_no (by rw [hn.out, hm.out]; omega)))
end Go.Proofs.Ytjeabbbplibgkaa
