/-
  The plain mathematics of the encoding of integers as groups of seven bits.
-/
import Derived.Test.YtjeabbbplibgkaaMem
namespace Go.Proofs.Ytjeabbbplibgkaa

def bv (b : UInt8) : Value := .int .u8 b.toNat
theorem bv_one (l : List UInt8) : ∀ u ∈ l.map bv, u.oneCell' = true := by
  intro u hu; obtain ⟨b, _, rfl⟩ := List.mem_map.1 hu; rfl

/-- A slice of bytes of the call's own. -/
def IsB (base : Nat) (bs : List UInt8) (v : Value) (w' : World) : Prop := IsRow base 5 1 bs.length (bs.map bv) v w'
theorem IsB.mk {base n : Nat} {bs : List UInt8} {xs : List Value} {A : Option Addr} {c : Nat} {w' : World} (h : w'.ownsRow base 5 1 (.slice A n c) n xs) (hx : xs = bs.map bv) (hn : n = bs.length) : IsB base bs (.slice A n c) w' := IsRow.mk h hx hn
theorem IsB.rd {base : Nat} {bs : List UInt8} {v : Value} {w' : World} (h : IsB base bs v w') : ∃ A c, v = .slice A bs.length c ∧ Rd w' A (bs.map bv) := IsRow.rd h
theorem IsB.own {base : Nat} {bs : List UInt8} {v : Value} {w' : World} (h : IsB base bs v w') : ∃ A c, v = .slice A bs.length c ∧ w'.ownsRow base 5 1 (.slice A bs.length c) bs.length (bs.map bv) := h

/-- The number of an integer. -/
def zig (k : Int) : Nat := if 0 ≤ k then (2 * k).toNat else (-2 * k - 1).toNat
/-- The integer of a number. -/
def zag (u : Nat) : Int := if u % 2 = 0 then ((u / 2 : Nat) : Int) else -((u / 2 : Nat) : Int) - 1

theorem zag_zig (k : Int) : zag (zig k) = k := by
  unfold zag zig; split <;> split <;> omega
theorem zig_zag (u : Nat) : zig (zag u) = u := by
  unfold zag zig; split <;> split <;> omega
theorem zig_lt {k : Int} (h1 : -9223372036854775808 ≤ k) (h2 : k < 9223372036854775808) : zig k < 18446744073709551616 := by
  unfold zig; split <;> omega
theorem zag_lo {u : Nat} (h : u < 18446744073709551616) : -9223372036854775808 ≤ zag u ∧ zag u < 9223372036854775808 := by
  unfold zag; split <;> omega

/-- The groups of seven bits. -/
def encF : Nat → Nat → List UInt8
  | 0, u => [UInt8.ofNat u]
  | f + 1, u => if u < 128 then [UInt8.ofNat u] else UInt8.ofNat (u % 128 + 128) :: encF f (u / 128)
def enc (u : Nat) : List UInt8 := encF u u

theorem encF_eq : ∀ (f g u : Nat), u ≤ f → u ≤ g → encF f u = encF g u
  | 0, g, u, h, _ => by
    obtain rfl : u = 0 := by omega
    cases g <;> simp [encF]
  | f + 1, 0, u, _, h => by
    obtain rfl : u = 0 := by omega
    simp [encF]
  | f + 1, g + 1, u, h1, h2 => by
    unfold encF
    split
    · rfl
    · rw [encF_eq f g (u / 128) (by omega) (by omega)]
theorem enc_small {u : Nat} (h : u < 128) : enc u = [UInt8.ofNat u] := by
  unfold enc; cases u <;> simp [encF]; omega
theorem enc_big {u : Nat} (h : 128 ≤ u) : enc u = UInt8.ofNat (u % 128 + 128) :: enc (u / 128) := by
  obtain ⟨v, rfl⟩ : ∃ v, u = v + 1 := ⟨u - 1, by omega⟩
  show encF (v + 1) (v + 1) = _
  rw [encF, if_neg (by omega)]
  congr 1
  exact encF_eq _ _ _ (by omega) (Nat.le_refl _)
theorem enc_len : ∀ (k u : Nat), u < 128 ^ (k + 1) → (enc u).length ≤ k + 1
  | 0, u, h => by rw [enc_small (by simpa using h)]; simp
  | k + 1, u, h => by
    rcases Nat.lt_or_ge u 128 with hu | hu
    · rw [enc_small hu]; simp
    · rw [enc_big hu, List.length_cons]
      have := enc_len k (u / 128) (by rw [Nat.pow_succ] at h; omega)
      omega
theorem enc_pos (u : Nat) : 1 ≤ (enc u).length := by
  rcases Nat.lt_or_ge u 128 with hu | hu
  · rw [enc_small hu]; simp
  · rw [enc_big hu]; simp
theorem enc_len10 {u : Nat} (h : u < 18446744073709551616) : (enc u).length ≤ 10 := enc_len 9 u (by omega)

/-- No encoding begins with another. -/
theorem enc_prefix : ∀ (f u v : Nat) (r s : List UInt8), u ≤ f → enc u ++ r = enc v ++ s → u = v ∧ r = s
  | f, u, v, r, s, hf, h => by
    rcases Nat.lt_or_ge u 128 with hu | hu <;> rcases Nat.lt_or_ge v 128 with hv | hv
    · rw [enc_small hu, enc_small hv] at h
      simp only [List.cons_append, List.nil_append, List.cons.injEq] at h
      have := congrArg UInt8.toNat h.1
      simp only [UInt8.toNat_ofNat'] at this
      exact ⟨by omega, h.2⟩
    · rw [enc_small hu, enc_big hv] at h
      simp only [List.cons_append, List.nil_append, List.cons.injEq] at h
      have := congrArg UInt8.toNat h.1
      simp only [UInt8.toNat_ofNat'] at this
      omega
    · rw [enc_big hu, enc_small hv] at h
      simp only [List.cons_append, List.nil_append, List.cons.injEq] at h
      have := congrArg UInt8.toNat h.1
      simp only [UInt8.toNat_ofNat'] at this
      omega
    · rw [enc_big hu, enc_big hv] at h
      simp only [List.cons_append, List.cons.injEq] at h
      have := congrArg UInt8.toNat h.1
      simp only [UInt8.toNat_ofNat'] at this
      cases f with
      | zero => omega
      | succ f =>
        obtain ⟨h1, h2⟩ := enc_prefix f (u / 128) (v / 128) r s (by omega) h.2
        exact ⟨by omega, h2⟩
end Go.Proofs.Ytjeabbbplibgkaa
