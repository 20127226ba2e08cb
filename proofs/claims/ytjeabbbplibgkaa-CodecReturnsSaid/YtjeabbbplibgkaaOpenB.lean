/-
  Arguments opened: slices of bytes, strings, integers.
-/
import Derived.Test.YtjeabbbplibgkaaLaw
import Derived.Test.YtjeabbbplibgkaaBytes
import Derived.ChangeSlices
import Derived.ChangeMaps5
namespace Go.Proofs.Ytjeabbbplibgkaa
open Go.ChangeShapes Go.WideShapes Go.ChangeAt Go.RowKit

theorem i64_bounds {n : Int} (h : (Lit.int .i64 n).wf = true) : -9223372036854775808 ≤ n ∧ n < 9223372036854775808 := by
  simp [Lit.wf, IntKind.min, IntKind.max, IntKind.signed, IntKind.bits] at h
  omega
theorem u8_bounds {n : Int} (h : (Lit.int .u8 n).wf = true) : 0 ≤ n ∧ n < 256 := by
  simp [Lit.wf, IntKind.min, IntKind.max, IntKind.signed, IntKind.bits] at h
  omega

theorem open_bytesF {H : Type} {enc : TypeId × Value → H} {W : World} {base : Nat} {sp : Nat → Bool} {hd : Bool} {fuel : Nat} {cs : List Value} {x : DataW H × List MemPlace} (h : DataW.trod enc Try.prog W base sp hd fuel 22 cs = some x) :
    ∃ (A : Option Addr) (c : Nat) (bs : List UInt8), cs = [.slice A bs.length c] ∧ bs.length ≤ c ∧ c ≤ 9223372036854775807 ∧ Rd W A (bs.map bv) := by
  rcases open_ints Try.underlying22 Try.underlying5 (by kernel_rfl) h with ⟨h1, _⟩ | ⟨a, len, cap, zs, h1, _, h2, hm, h3, _, h4, h5⟩
  · exact ⟨none, 0, [], h1, by simp, by omega, Rd.nil _ _⟩
  · have hl : len ≤ zs.length := by rw [h3]; split <;> omega
    refine ⟨some a, cap, (zs.take len).map fun z => UInt8.ofNat z.toNat, ?_, ?_, by unfold maxLen at hm; omega, .inr ⟨a, rfl, fun j u hu => ?_⟩⟩
    · rw [List.length_map, List.length_take, Nat.min_eq_left hl]; exact h1
    · rw [List.length_map, List.length_take, Nat.min_eq_left hl]; exact h2
    · simp only [List.map_map, List.getElem?_map, Option.map_eq_some_iff] at hu
      obtain ⟨z, hz, rfl⟩ := hu
      rw [List.getElem?_take] at hz
      split at hz
      · have hj : j < zs.length := by omega
        rw [h4 j hj, List.getD_eq_getElem?_getD, hz]
        have hb := u8_bounds (h5 z (List.mem_of_getElem? hz))
        simp only [Option.getD_some, Function.comp, bv, UInt8.toNat_ofNat']
        congr 2
        omega
      · cases hz

theorem open_bytes {H : Type} {enc : TypeId × Value → H} {W : World} {base b0 : Nat} {sp : Nat → Bool} {hd : Bool} {r : Reach} {v : Value} {d : DataW H} {ps : List MemPlace} (hv : Value.okWide Try.prog W r b0 22 v) (h : DataW.Trod enc Try.prog W base sp hd 22 v d ps) :
    ∃ (A : Option Addr) (c : Nat) (bs : List UInt8), v = .slice A bs.length c ∧ bs.length ≤ c ∧ c ≤ 9223372036854775807 ∧ Rd W A (bs.map bv) := by
  obtain ⟨a, len, cap, rfl⟩ := okWide_slice Try.underlying22 hv
  obtain ⟨fuel, hf⟩ := h
  obtain ⟨A, c, bs, h1, h2, h3, h4⟩ := open_bytesF hf
  refine ⟨A, c, bs, ?_, h2, h3, h4⟩
  simpa [Value.cells] using h1
end Go.Proofs.Ytjeabbbplibgkaa
