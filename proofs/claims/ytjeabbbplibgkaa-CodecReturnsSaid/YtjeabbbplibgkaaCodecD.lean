/-
  The walks of the functions that decode: raw, Int, Text and Bool of the program.
-/
import Derived.Test.YtjeabbbplibgkaaDec
import Derived.Test.YtjeabbbplibgkaaBytes
namespace Go.Proofs.Ytjeabbbplibgkaa
open Go.RowKit

theorem drop_get {bs : List UInt8} {k : Nat} (h : k < bs.length) : ∃ x, bs.drop k = x :: bs.drop (k + 1) ∧ (bs.map bv)[k]? = some (.int .u8 (x.toNat : Int)) :=
  ⟨bs[k], List.drop_eq_getElem_cons h, by simp [h, bv]⟩

theorem and127 : ∀ x : Fin 256, (x.val &&& 127) = x.val % 128 := by decide +kernel
theorem and128 : ∀ x : Fin 256, (x.val &&& 128) = if x.val < 128 then 0 else 128 := by decide +kernel
theorem and128_eq {x : Nat} (h : x < 256) : (bits .and .u8 (x : Int) 128 == 0) = decide (x < 128) := by
  rw [show (128 : Int) = ((128 : Nat) : Int) by rfl, u8_and_nat _ _ h (by omega), and128 ⟨x, h⟩]
  by_cases hx : x < 128 <;> simp [hx]
theorem sum_eq {acc k x : Nat} (ha : acc < 128 ^ k) (hk : k ≤ 9) (h9 : k = 9 → x ≤ 1) (h : x < 256) :
    bits .or .u64 (acc : Int) (IntKind.u64.wrap (IntKind.u64.wrap (bits .and .u8 (x : Int) 127) * 2 ^ (7 * k))) = ((acc + 128 ^ k * (x % 128) : Nat) : Int) := by
  rw [show (127 : Int) = ((127 : Nat) : Int) by rfl, u8_and_nat _ _ h (by omega), and127 ⟨x, h⟩]
  have e0 : (128 : Nat) ^ k = 2 ^ (7 * k) := by rw [show (128 : Nat) = 2 ^ 7 by rfl, ← Nat.pow_mul]
  have e1 : IntKind.u64.wrap ((x % 128 : Nat) : Int) = ((x % 128 : Nat) : Int) := by rw [IntKind.wrap_u64]; omega
  have hP : 128 ^ k ≤ 128 ^ 9 := Nat.pow_le_pow_right (by omega) hk
  have hm : 128 ^ k * (x % 128) + 128 ^ k ≤ 18446744073709551616 := by
    rcases Nat.lt_or_ge k 9 with hk9 | hk9
    · have h1 : 128 ^ k ≤ 128 ^ 8 := Nat.pow_le_pow_right (by omega) (by omega)
      have h2 : 128 ^ k * (x % 128) ≤ 128 ^ 8 * 127 := Nat.mul_le_mul h1 (by omega)
      omega
    · obtain rfl : k = 9 := by omega
      have := h9 rfl
      have h2 : 128 ^ 9 * (x % 128) ≤ 128 ^ 9 * 1 := Nat.mul_le_mul_left _ (by omega)
      omega
  have e2 : ((x % 128 : Nat) : Int) * 2 ^ (7 * k) = ((128 ^ k * (x % 128) : Nat) : Int) := by
    rw [e0, Int.natCast_mul, Int.natCast_pow, Int.mul_comm]; rfl
  have e3 : IntKind.u64.wrap ((128 ^ k * (x % 128) : Nat) : Int) = ((128 ^ k * (x % 128) : Nat) : Int) := by
    have hpos : 0 < 128 ^ k := Nat.pow_pos (by omega)
    rw [IntKind.wrap_u64]; omega
  have hpos : 0 < 128 ^ k := Nat.pow_pos (by omega)
  rw [e1, e2, e3, u64_or_nat _ _ (by omega) (by omega)]
  rw [e0] at ha ⊢
  rw [Nat.or_comm, ← Nat.two_pow_add_eq_or_of_lt ha, Nat.add_comm]

/-- The three results of raw. -/
def rawV (at_ : Nat) (r : Nat × Nat × Nat) : Value := .tuple #[.int .u64 (r.1 : Nat), .int .i64 ((if r.2.2 = 0 then at_ + r.2.1 else 0 : Nat) : Int), .int .i64 (r.2.2 : Nat)]
def RawPost (w : World) (at_ : Nat) (r : Nat × Nat × Nat) (e : Ending) (w' : World) : Prop := e = .returned (rawV at_ r) ∧ w = w'
theorem RawPost.mk {w : World} {at_ : Nat} {r : Nat × Nat × Nat} {u n e : Int} (h1 : u = (r.1 : Nat)) (h2 : n = ((if r.2.2 = 0 then at_ + r.2.1 else 0 : Nat) : Int)) (h3 : e = (r.2.2 : Nat)) :
    RawPost w at_ r (.returned (.tuple #[.int .u64 u, .int .i64 n, .int .i64 e])) w := by
  subst h1 h2 h3
  exact ⟨rfl, rfl⟩

set_option maxRecDepth 100000 in
set_option maxHeartbeats 800000 in
theorem raw_any (A : Option Addr) (c : Nat) (bs : List UInt8) (at_ : Nat) (w : World) (hrd : Rd w A (bs.map bv)) (hlen : bs.length ≤ 1000000) (ha : at_ ≤ bs.length) :
    Calls Try.prog 19 #[.slice A bs.length c, .int .i64 (at_ : Int)] w (RawPost w at_ (rawM 0 (bs.drop at_))) := by
  go_enter Try.func19, Try.ntmps19
  go_wp2
  go_loop [4, 7, 8, 9] (fun v4 _ _ v9 => ∃ (k acc : Nat), v9 = .int .i64 (k : Int) ∧ k ≤ 9 ∧ at_ + k ≤ bs.length ∧ v4 = .int .u64 (acc : Int) ∧ Hid (acc < 128 ^ k) ∧ Hid (accM acc k (rawM k (bs.drop (at_ + k))) = rawM 0 (bs.drop at_)))
    (fun _ _ _ v9 => 10 - (intOf v9).toNat)
  case atStart => exact ⟨0, 0, rfl, by omega, by omega, rfl, by exact Lib.hid (by omega), accM_zero _⟩
  case round =>
    obtain ⟨k, acc, rfl, hk, hak, rfl, hacc, hinv⟩ := hrel
    by_cases hl : at_ + k = bs.length
    · have hb : ((at_ : Int) + (k : Int) == (bs.length : Int)) = true := by simp; omega
      have HI : Hid (rawM 0 (bs.drop at_) = (0, 0, 4)) := by
        rw [← hinv.out, List.drop_eq_nil_of_le (by omega)]; exact Lib.hid rfl
      go_wp2
      go_ret3
      rw [HI.out]
      exact RawPost.mk rfl rfl rfl
    · have hb : ((at_ : Int) + (k : Int) == (bs.length : Int)) = false := by simp; omega
      obtain ⟨x, hx, hx'⟩ := drop_get (bs := bs) (k := at_ + k) (by omega)
      obtain ⟨ad, rfl, hc⟩ := hrd.at_ hx'
      rw [hx] at hinv
      clear hx hx'
      have hx256 := UInt8.toNat_lt x
      have h128 := and128_eq hx256
      by_cases hform : k = 9 ∧ 1 < x.toNat
      · have HI : Hid (rawM 0 (bs.drop at_) = (0, 0, 3)) := by
          rw [← hinv.out, rawM_cons, if_pos hform]; exact Lib.hid rfl
        have h9b : ((k : Int) == 9) = true := by simp; omega
        have h1 := hform.2
        clear hform h128
        go_wp2
        go_ret3
        rw [HI.out]
        exact RawPost.mk rfl rfl rfl
      · have HS := Lib.hid (sum_eq (x := x.toNat) hacc.out hk (fun h => by omega) hx256)
        by_cases hsm : x.toNat < 128
        · have e1 : x.toNat % 128 = x.toNat := by omega
          rw [e1] at HS
          rw [show decide (x.toNat < 128) = true by simpa using hsm] at h128
          by_cases hz : 0 < k ∧ x.toNat = 0
          · have HI : Hid (rawM 0 (bs.drop at_) = (0, 0, 3)) := by
              rw [← hinv.out, rawM_cons, if_neg hform, if_pos hsm, if_pos hz]; exact Lib.hid rfl
            have hxb : ((x.toNat : Int) == 0) = true := by simp; omega
            have h0 := hz.1
            by_cases h9 : k = 9
            · have h9b : ((k : Int) == 9) = true := by simp; omega
              have h1 : x.toNat ≤ 1 := by omega
              clear hz h9 hform
              go_wp2
              go_ret3
              rw [HI.out]
              exact RawPost.mk rfl rfl rfl
            · have h9b : ((k : Int) == 9) = false := by simp; omega
              clear hz
              go_wp2
              go_ret3
              rw [HI.out]
              exact RawPost.mk rfl rfl rfl
          · have HI : Hid (rawM 0 (bs.drop at_) = (acc + 128 ^ k * x.toNat, k + 1, 0)) := by
              rw [← hinv.out, rawM_cons, if_neg hform, if_pos hsm, if_neg hz]; exact Lib.hid rfl
            have hxb : 0 < k → ((x.toNat : Int) == 0) = false := by intro h; simp; omega
            by_cases h9 : k = 9
            · have h9b : ((k : Int) == 9) = true := by simp; omega
              have hxb := hxb (by omega)
              have h0 : 0 < k := by omega
              have h1 : x.toNat ≤ 1 := by omega
              clear hz h9 hform
              go_wp2
              go_ret3
              rw [HI.out, HS.out]
              exact RawPost.mk rfl (by simp; omega) rfl
            · have h9b : ((k : Int) == 9) = false := by simp; omega
              clear hz
              go_wp2
              all_goals
                go_ret3
                rw [HI.out, HS.out]
                exact RawPost.mk rfl (by simp; omega) rfl
        · rw [show decide (x.toNat < 128) = false by simpa using hsm] at h128
          have hk9 : k < 9 := by omega
          rw [accM_more hk9 (by omega)] at hinv
          have h9b : ((k : Int) == 9) = false := by simp; omega
          go_wp2
          go_round
          case rel =>
            refine ⟨k + 1, acc + 128 ^ k * (x.toNat - 128), by go_num, by omega, by omega, by rw [HS.out, show x.toNat % 128 = x.toNat - 128 by omega], ?_, hinv⟩
            have h2 := hacc.out
            have h3 : 128 ^ k * (x.toNat - 128) + 128 ^ k ≤ 128 ^ k * 128 := by
              rw [← Nat.mul_succ]; exact Nat.mul_le_mul_left _ (by omega)
            exact Lib.hid (by rw [Nat.pow_succ]; omega)
          case measure => simp [intOf]; omega
end Go.Proofs.Ytjeabbbplibgkaa
