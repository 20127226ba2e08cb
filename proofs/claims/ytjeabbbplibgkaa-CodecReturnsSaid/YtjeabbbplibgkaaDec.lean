/-
  The plain mathematics of decoding: groups of seven bits are read, up to ten; what is read is the encoding of the number that is returned.
-/
import Derived.Test.YtjeabbbplibgkaaEnc
namespace Go.Proofs.Ytjeabbbplibgkaa

/-- Number, length and error (0: none, 3: form, 4: short) of the groups from group k on. -/
def rawM (k : Nat) : List UInt8 → Nat × Nat × Nat
  | [] => (0, 0, 4)
  | c :: r =>
    if k = 9 ∧ 1 < c.toNat then (0, 0, 3)
    else if c.toNat < 128 then (if 0 < k ∧ c.toNat = 0 then (0, 0, 3) else (c.toNat, 1, 0))
    else match rawM (k + 1) r with
      | (u, n, e) => if e = 0 then (c.toNat - 128 + 128 * u, n + 1, 0) else (0, 0, e)

theorem rawM_cons (k : Nat) (c : UInt8) (r : List UInt8) : rawM k (c :: r) = if k = 9 ∧ 1 < c.toNat then (0, 0, 3)
    else if c.toNat < 128 then (if 0 < k ∧ c.toNat = 0 then (0, 0, 3) else (c.toNat, 1, 0))
    else if (rawM (k + 1) r).2.2 = 0 then (c.toNat - 128 + 128 * (rawM (k + 1) r).1, (rawM (k + 1) r).2.1 + 1, 0) else (0, 0, (rawM (k + 1) r).2.2) := rfl

theorem rawM_err (k : Nat) (l : List UInt8) : (rawM k l).2.2 = 0 ∨ ((rawM k l).1 = 0 ∧ (rawM k l).2.1 = 0 ∧ ((rawM k l).2.2 = 3 ∨ (rawM k l).2.2 = 4)) := by
  induction l generalizing k with
  | nil => right; simp [rawM]
  | cons c r ih =>
    unfold rawM
    split
    · simp
    · split
      · split <;> simp
      · have := ih (k + 1)
        generalize rawM (k + 1) r = x at *
        obtain ⟨u, n, e⟩ := x
        simp only at this ⊢
        split
        · simp
        · rcases this with h | h
          · contradiction
          · simp [h.2.2]

theorem lt_aux (k c u : Nat) (hk : k < 9) (hc : c < 128) (h : u * 128 ^ (k + 1) < 18446744073709551616) : (c + 128 * u) * 128 ^ k < 18446744073709551616 := by
  have hq : 18446744073709551616 = 2 ^ (64 - 7 * (k + 1)) * 128 ^ (k + 1) := by
    rw [show (128 : Nat) = 2 ^ 7 by rfl, ← Nat.pow_mul, ← Nat.pow_add, show 64 - 7 * (k + 1) + 7 * (k + 1) = 64 by omega]
  generalize 2 ^ (64 - 7 * (k + 1)) = q at hq
  rw [hq] at h ⊢
  have h1 : u < q := Nat.lt_of_mul_lt_mul_right h
  have h2 : (c + 128 * u) * 128 ^ k < 128 * (u + 1) * 128 ^ k := Nat.mul_lt_mul_of_pos_right (by omega) (Nat.pow_pos (by omega))
  have h3 : 128 * (u + 1) * 128 ^ k = (u + 1) * 128 ^ (k + 1) := by rw [Nat.pow_succ, Nat.mul_comm (128 ^ k) 128, ← Nat.mul_assoc, Nat.mul_comm (u + 1) 128]
  have h4 : (u + 1) * 128 ^ (k + 1) ≤ q * 128 ^ (k + 1) := Nat.mul_le_mul_right _ (by omega)
  omega

/-- What is read is an encoding. -/
theorem rawM_enc (k : Nat) (l : List UInt8) (hk : k ≤ 9) (h : (rawM k l).2.2 = 0) :
    (rawM k l).1 * 128 ^ k < 18446744073709551616 ∧ l.take (rawM k l).2.1 = enc (rawM k l).1 ∧ (rawM k l).2.1 = (enc (rawM k l).1).length ∧ (rawM k l).2.1 ≤ l.length ∧ (0 < k → 0 < (rawM k l).1) := by
  induction l generalizing k with
  | nil => simp [rawM] at h
  | cons c r ih =>
    unfold rawM at h ⊢
    split at h
    · simp at h
    · rename_i h9
      rw [if_neg h9]
      split at h
      · rename_i hc
        rw [if_pos hc]
        split at h
        · simp at h
        · rename_i h0
          rw [if_neg h0]
          simp only [enc_small hc, UInt8.ofNat_toNat, List.take_succ_cons, List.take_zero, List.length_cons, List.length_nil, true_and]
          refine ⟨?_, by omega, by omega⟩
          rcases Nat.lt_or_ge k 9 with hk9 | hk9
          · have : 128 ^ k ≤ 128 ^ 8 := Nat.pow_le_pow_right (by omega) (by omega)
            have h2 : c.toNat * 128 ^ k ≤ 127 * 128 ^ 8 := Nat.mul_le_mul (by omega) this
            omega
          · obtain rfl : k = 9 := by omega
            omega
      · rename_i hc
        rw [if_neg hc]
        have hk9 : k < 9 := by omega
        have ih' := ih (k + 1) (by omega)
        generalize rawM (k + 1) r = x at *
        obtain ⟨u, n, e⟩ := x
        simp only at ih' h ⊢
        split at h
        · rename_i he
          rw [if_pos he]
          obtain ⟨h1, h2, h3, h4, h5⟩ := ih' he
          have hu := h5 (by omega)
          have hcl := UInt8.toNat_lt c
          have hd : (c.toNat - 128 + 128 * u) % 128 = c.toNat - 128 := by omega
          have hq : (c.toNat - 128 + 128 * u) / 128 = u := by omega
          simp only
          rw [enc_big (by omega), hd, hq, show c.toNat - 128 + 128 = c.toNat by omega, UInt8.ofNat_toNat]
          refine ⟨?_, by simp [h2], by simp [h3], by simp [h4], by omega⟩
          exact lt_aux k _ u hk9 (by omega) h1
        · simp only at h; omega

theorem rawM_of (k u : Nat) (r : List UInt8) (hu : u * 128 ^ k < 18446744073709551616) (hk : k ≤ 9) (h0 : 0 < k → 0 < u) : rawM k (enc u ++ r) = (u, (enc u).length, 0) := by
  induction hm : 9 - k generalizing k u with
  | zero =>
    obtain rfl : k = 9 := by omega
    have hu1 : u < 2 := by omega
    rw [enc_small (by omega)]
    have := h0 (by omega)
    obtain rfl : u = 1 := by omega
    simp [rawM]
  | succ m ih =>
    rcases Nat.lt_or_ge u 128 with hs | hs
    · rw [enc_small hs]
      have e1 : (UInt8.ofNat u).toNat = u := by simp only [UInt8.toNat_ofNat']; omega
      simp only [List.cons_append, List.nil_append, rawM, e1, List.length_cons, List.length_nil]
      rw [if_neg (by omega), if_pos hs, if_neg (by omega)]
    · rw [enc_big hs]
      have e1 : (UInt8.ofNat (u % 128 + 128)).toNat = u % 128 + 128 := by simp only [UInt8.toNat_ofNat']; omega
      have hd : u / 128 * 128 ^ (k + 1) < 18446744073709551616 := by
        have : u / 128 * 128 ^ (k + 1) ≤ u * 128 ^ k := by
          rw [Nat.pow_succ, Nat.mul_comm (128 ^ k) 128, ← Nat.mul_assoc]
          exact Nat.mul_le_mul_right _ (by omega)
        omega
      have hih := ih (k + 1) (u / 128) hd (by omega) (by omega) (by omega)
      simp only [List.cons_append, rawM, e1, hih, List.length_cons]
      rw [if_neg (by omega), if_neg (by omega)]
      simp
      omega

/-- What the loop has found, put before what is still to come. -/
def accM (acc k : Nat) (x : Nat × Nat × Nat) : Nat × Nat × Nat := if x.2.2 = 0 then (acc + 128 ^ k * x.1, k + x.2.1, 0) else (0, 0, x.2.2)

theorem accM_zero (x : List UInt8) : accM 0 0 (rawM 0 x) = rawM 0 x := by
  unfold accM
  rcases rawM_err 0 x with h | ⟨h1, h2, _⟩
  · rw [if_pos h]
    generalize rawM 0 x = y at *
    obtain ⟨a, b, c⟩ := y
    simp only at h
    simp [h]
  · split
    · rename_i h
      generalize rawM 0 x = y at *
      obtain ⟨a, b, c⟩ := y
      simp only at h h1 h2
      simp [h, h1, h2]
    · generalize rawM 0 x = y at *
      obtain ⟨a, b, c⟩ := y
      simp only at h1 h2
      simp [h1, h2]

/-- A group that another one follows. -/
theorem accM_more {acc k : Nat} {c : UInt8} {r : List UInt8} (hk : k < 9) (hc : 128 ≤ c.toNat) : accM acc k (rawM k (c :: r)) = accM (acc + 128 ^ k * (c.toNat - 128)) (k + 1) (rawM (k + 1) r) := by
  rw [rawM_cons, if_neg (by omega), if_neg (by omega)]
  generalize rawM (k + 1) r = y
  obtain ⟨a, b, e⟩ := y
  unfold accM
  by_cases he : e = 0
  · subst he
    simp only [if_true, Prod.mk.injEq]
    refine ⟨?_, by omega, trivial⟩
    rw [Nat.pow_succ, Nat.mul_add, Nat.mul_assoc, Nat.add_assoc]
  · simp [he]
end Go.Proofs.Ytjeabbbplibgkaa
