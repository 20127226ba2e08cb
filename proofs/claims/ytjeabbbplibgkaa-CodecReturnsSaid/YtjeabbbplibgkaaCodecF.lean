/-
  The walks of Int, Text and Bool of the program.
-/
import Derived.Test.YtjeabbbplibgkaaCodecE
namespace Go.Proofs.Ytjeabbbplibgkaa
open Go.RowKit

/-- What Int returns. -/
def intM (bs : List UInt8) (at_ lo hi : Int) : Int × Int × Int :=
  if at_ < 0 ∨ (bs.length : Int) < at_ ∨ hi < lo then (0, 0, 2)
  else if (rawM 0 (bs.drop at_.toNat)).2.2 ≠ 0 then (0, 0, ((rawM 0 (bs.drop at_.toNat)).2.2 : Nat))
  else if zag (rawM 0 (bs.drop at_.toNat)).1 < lo ∨ hi < zag (rawM 0 (bs.drop at_.toNat)).1 then (0, 0, 5)
  else (zag (rawM 0 (bs.drop at_.toNat)).1, at_ + ((rawM 0 (bs.drop at_.toNat)).2.1 : Nat), 0)
def tri (r : Int × Int × Int) : Value := .tuple #[.int .i64 r.1, .int .i64 r.2.1, .int .i64 r.2.2]
theorem tri_mk {r : Int × Int × Int} {a b c : Int} (h : r = (a, b, c)) : Value.tuple #[.int .i64 a, .int .i64 b, .int .i64 c] = tri r := by subst h; rfl

theorem i64_xor_ones (a : Int) (h1 : 0 ≤ a) (h2 : a < 9223372036854775808) : bits .xor .i64 a (-1) = -a - 1 := by
  obtain ⟨n, rfl⟩ := Int.eq_ofNat_of_zero_le h1
  show IntKind.i64.wrap ((BitVec.ofInt 64 (n : Int) ^^^ BitVec.ofInt 64 (-1)).toNat : Int) = _
  have hm : BitVec.ofInt 64 (-1) = BitVec.allOnes 64 := by decide +kernel
  rw [hm, BitVec.xor_allOnes, BitVec.toNat_not, BitVec.ofInt_natCast, BitVec.toNat_ofNat, Nat.mod_eq_of_lt (by omega), IntKind.wrap_i64]
  omega
theorem i64_xor_zero (a : Int) (h1 : 0 ≤ a) (h2 : a < 9223372036854775808) : bits .xor .i64 a 0 = a := by
  obtain ⟨n, rfl⟩ := Int.eq_ofNat_of_zero_le h1
  show IntKind.i64.wrap ((BitVec.ofInt 64 (n : Int) ^^^ BitVec.ofInt 64 0).toNat : Int) = _
  have hm : BitVec.ofInt 64 0 = 0#64 := by decide +kernel
  rw [hm, BitVec.xor_zero, BitVec.ofInt_natCast, BitVec.toNat_ofNat, Nat.mod_eq_of_lt (by omega), IntKind.wrap_i64]
  omega
theorem zag_eq {u : Nat} (h : u < 18446744073709551616) : bits .xor .i64 (wrap64 ((u : Int) / 2)) (wrap64 (-wrap64 (bits .and .u64 (u : Int) 1))) = zag u := by
  rw [show (1 : Int) = ((1 : Nat) : Int) by rfl, u64_and_nat _ _ h (by omega), Nat.and_one_is_mod]
  have hw : ∀ a : Int, -9223372036854775808 ≤ a → a < 9223372036854775808 → wrap64 a = a := fun a h1 h2 => by unfold wrap64; omega
  rw [hw _ (by omega) (by omega), hw ((u % 2 : Nat) : Int) (by omega) (by omega), hw _ (by omega) (by omega)]
  unfold zag
  by_cases h2 : u % 2 = 0
  · rw [h2, if_pos rfl]
    show bits .xor .i64 _ 0 = _
    rw [i64_xor_zero _ (by omega) (by omega)]
    omega
  · rw [if_neg h2, show u % 2 = 1 by omega]
    show bits .xor .i64 _ (-1) = _
    rw [i64_xor_ones _ (by omega) (by omega)]
    omega

theorem rawM_lt (l : List UInt8) (h : (rawM 0 l).2.2 = 0) : (rawM 0 l).1 < 18446744073709551616 := by
  have := (rawM_enc 0 l (by omega) h).1
  simpa using this

set_option maxRecDepth 100000 in
set_option maxHeartbeats 800000 in
theorem int_any (A : Option Addr) (c : Nat) (bs : List UInt8) (at_ lo hi : Int) (w : World) (hrd : Rd w A (bs.map bv)) (hlen : bs.length ≤ 1000000) :
    Calls Try.prog 8 #[.slice A bs.length c, .int .i64 at_, .int .i64 lo, .int .i64 hi] w (Same w (tri (intM bs at_ lo hi))) := by
  by_cases h0 : at_ < 0
  · have HM : Hid (intM bs at_ lo hi = (0, 0, 2)) := by unfold intM; rw [if_pos (.inl h0)]; exact Lib.hid rfl
    go_enter Try.func8, Try.ntmps8
    go_wp2
    go_ret3
    exact Same.mk (tri_mk HM.out)
  by_cases h1 : (bs.length : Int) < at_
  · have HM : Hid (intM bs at_ lo hi = (0, 0, 2)) := by unfold intM; rw [if_pos (.inr (.inl h1))]; exact Lib.hid rfl
    go_enter Try.func8, Try.ntmps8
    go_wp2
    go_ret3
    exact Same.mk (tri_mk HM.out)
  by_cases h2 : hi < lo
  · have HM : Hid (intM bs at_ lo hi = (0, 0, 2)) := by unfold intM; rw [if_pos (.inr (.inr h2))]; exact Lib.hid rfl
    go_enter Try.func8, Try.ntmps8
    go_wp2
    go_ret3
    exact Same.mk (tri_mk HM.out)
  obtain ⟨n, rfl⟩ := Int.eq_ofNat_of_zero_le (show 0 ≤ at_ by omega)
  have HM : Hid (intM bs n lo hi = if (rawM 0 (bs.drop n)).2.2 ≠ 0 then ((0 : Int), (0 : Int), (((rawM 0 (bs.drop n)).2.2 : Nat) : Int))
      else if zag (rawM 0 (bs.drop n)).1 < lo ∨ hi < zag (rawM 0 (bs.drop n)).1 then (0, 0, 5)
      else (zag (rawM 0 (bs.drop n)).1, (n : Int) + (((rawM 0 (bs.drop n)).2.1 : Nat) : Int), 0)) := by
    unfold intM; rw [if_neg (by omega)]; exact Lib.hid rfl
  have hR := raw_any A c bs n w hrd hlen (by omega)
  have hlt := rawM_lt (bs.drop n)
  rcases hr : rawM 0 (bs.drop n) with ⟨u, m, e⟩
  rw [hr] at HM hR hlt
  clear hr
  simp only at HM hlt
  have HR := hide hR
  clear hR
  by_cases he : e = 0
  · subst he
    have HZ := zag_eq (hlt rfl)
    have HL := Lib.hid (hlt rfl)
    clear hlt
    by_cases h3 : zag u < lo
    · have HM' : Hid (intM bs n lo hi = (0, 0, 5)) := by rw [HM.out, if_neg (by simp), if_pos (.inl h3)]; exact Lib.hid rfl
      go_enter Try.func8, Try.ntmps8
      go_wp2_with fail
      refine (unhide HR).mono ?_
      rintro e w1 ⟨rfl, rfl⟩
      simp only [rawV]
      go_wp2
      go_ret3
      exact Same.mk (tri_mk HM'.out)
    · by_cases h4 : hi < zag u
      · have HM' : Hid (intM bs n lo hi = (0, 0, 5)) := by rw [HM.out, if_neg (by simp), if_pos (.inr h4)]; exact Lib.hid rfl
        go_enter Try.func8, Try.ntmps8
        go_wp2_with fail
        refine (unhide HR).mono ?_
        rintro e w1 ⟨rfl, rfl⟩
        simp only [rawV]
        go_wp2
        go_ret3
        exact Same.mk (tri_mk HM'.out)
      · have HM' : Hid (intM bs n lo hi = (zag u, (n : Int) + ((m : Nat) : Int), 0)) := by rw [HM.out, if_neg (by simp), if_neg (by omega)]; exact Lib.hid rfl
        go_enter Try.func8, Try.ntmps8
        go_wp2_with fail
        refine (unhide HR).mono ?_
        rintro e w1 ⟨rfl, rfl⟩
        simp only [rawV]
        go_wp2
        go_ret3
        exact Same.mk (tri_mk (by rw [HM'.out]))
  · have HM' : Hid (intM bs n lo hi = (0, 0, ((e : Nat) : Int))) := by rw [HM.out, if_pos he]; exact Lib.hid rfl
    have hb : ((e : Int) != 0) = true := by simp; omega
    clear hlt
    go_enter Try.func8, Try.ntmps8
    go_wp2_with fail
    refine (unhide HR).mono ?_
    rintro e w1 ⟨rfl, rfl⟩
    simp only [rawV]
    go_wp2
    go_ret3
    exact Same.mk (tri_mk (by rw [HM'.out]))
end Go.Proofs.Ytjeabbbplibgkaa
