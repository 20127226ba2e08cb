/-
  The walks of Text and Bool of the program.
-/
import Derived.Test.YtjeabbbplibgkaaCodecF
namespace Go.Proofs.Ytjeabbbplibgkaa
open Go.RowKit

/-- What Int says when there is no error. -/
theorem intM_ok {bs : List UInt8} {at_ lo hi n next : Int} (h : intM bs at_ lo hi = (n, next, 0)) :
    0 ≤ at_ ∧ at_ < next ∧ next ≤ bs.length ∧ lo ≤ n ∧ n ≤ hi ∧ -9223372036854775808 ≤ n ∧ n < 9223372036854775808 ∧ (bs.drop at_.toNat).take (next.toNat - at_.toNat) = enc (zig n) ∧ (next.toNat - at_.toNat) = (enc (zig n)).length := by
  unfold intM at h
  split at h
  · simp at h
  · rename_i h0
    split at h
    · rename_i h1; simp at h; omega
    · rename_i h1
      have h1 : (rawM 0 (bs.drop at_.toNat)).2.2 = 0 := by simpa using h1
      split at h
      · simp at h
      · rename_i h2
        simp only [Prod.mk.injEq] at h
        obtain ⟨h3, h4, _⟩ := h
        have hr := rawM_enc 0 _ (by omega) h1
        have hlt := rawM_lt _ h1
        have hz := zag_lo hlt
        have hp := enc_pos (rawM 0 (bs.drop at_.toNat)).1
        have hl := hr.2.2.2.1
        rw [List.length_drop] at hl
        have hm := hr.2.2.1
        rw [← h3, zig_zag]
        have e1 : next.toNat - at_.toNat = (rawM 0 (bs.drop at_.toNat)).2.1 := by omega
        rw [e1]
        refine ⟨by omega, by omega, by omega, by omega, by omega, by omega, by omega, hr.2.1, hr.2.2.1⟩
theorem intM_err {bs : List UInt8} {at_ lo hi n next e : Int} (h : intM bs at_ lo hi = (n, next, e)) (he : e ≠ 0) : n = 0 ∧ next = 0 := by
  unfold intM at h
  split at h
  · simp at h; omega
  · split at h
    · simp at h; omega
    · split at h
      · simp at h; omega
      · simp only [Prod.mk.injEq] at h; omega

/-- What Text returns. -/
def textM (bs : List UInt8) (at_ most : Int) : List UInt8 × Int × Int :=
  if most < 0 then ([], 0, 2)
  else if (intM bs at_ 0 most).2.2 ≠ 0 then ([], 0, (intM bs at_ 0 most).2.2)
  else if (bs.length : Int) - (intM bs at_ 0 most).2.1 < (intM bs at_ 0 most).1 then ([], 0, 4)
  else ((bs.drop (intM bs at_ 0 most).2.1.toNat).take (intM bs at_ 0 most).1.toNat, (intM bs at_ 0 most).2.1 + (intM bs at_ 0 most).1, 0)
def triS (r : List UInt8 × Int × Int) : Value := .tuple #[.string ⟨r.1.toArray⟩, .int .i64 r.2.1, .int .i64 r.2.2]
theorem triS_mk {r : List UInt8 × Int × Int} {s : ByteArray} {a : List UInt8} {b c : Int} (h : r = (a, b, c)) (hs : s = ⟨a.toArray⟩) : Value.tuple #[.string s, .int .i64 b, .int .i64 c] = triS r := by subst h hs; rfl

set_option maxRecDepth 100000 in
set_option maxHeartbeats 800000 in
theorem text_any (A : Option Addr) (c : Nat) (bs : List UInt8) (at_ most : Int) (w : World) (hrd : Rd w A (bs.map bv)) (hlen : bs.length ≤ 1000000) (hcap : bs.length ≤ c) :
    Calls Try.prog 11 #[.slice A bs.length c, .int .i64 at_, .int .i64 most] w (Same w (triS (textM bs at_ most))) := by
  by_cases h0 : most < 0
  · have HM : Hid (textM bs at_ most = ([], 0, 2)) := by unfold textM; rw [if_pos h0]; exact Lib.hid rfl
    go_enter Try.func11, Try.ntmps11
    go_wp2
    go_ret3
    exact Same.mk (triS_mk HM.out rfl)
  have HR := hide (int_any A c bs at_ 0 most w hrd hlen)
  have HM : Hid (textM bs at_ most = if (intM bs at_ 0 most).2.2 ≠ 0 then ([], 0, (intM bs at_ 0 most).2.2)
      else if (bs.length : Int) - (intM bs at_ 0 most).2.1 < (intM bs at_ 0 most).1 then ([], 0, 4)
      else ((bs.drop (intM bs at_ 0 most).2.1.toNat).take (intM bs at_ 0 most).1.toNat, (intM bs at_ 0 most).2.1 + (intM bs at_ 0 most).1, 0)) := by
    unfold textM; rw [if_neg h0]; exact Lib.hid rfl
  rcases hr : intM bs at_ 0 most with ⟨n, next, e⟩
  rw [hr] at HM HR
  have HO := Lib.hid hr
  clear hr
  simp only at HM
  by_cases he : e = 0
  · subst he
    obtain ⟨p1, p2, p3, p4, p5, -⟩ := intM_ok HO.out
    obtain ⟨q, rfl⟩ := Int.eq_ofNat_of_zero_le (show 0 ≤ next by omega)
    obtain ⟨m, rfl⟩ := Int.eq_ofNat_of_zero_le p4
    by_cases h1 : (bs.length : Int) - (q : Int) < (m : Int)
    · have HM' : Hid (textM bs at_ most = ([], 0, 4)) := by rw [HM.out, if_neg (by simp), if_pos h1]; exact Lib.hid rfl
      go_enter Try.func11, Try.ntmps11
      go_wp2_with fail
      refine (unhide HR).mono ?_
      rintro e w1 ⟨rfl, rfl⟩
      simp only [tri]
      go_wp2
      go_ret3
      exact Same.mk (triS_mk HM'.out rfl)
    · have HM' : Hid (textM bs at_ most = ((bs.drop q).take m, (q : Int) + (m : Int), 0)) := by rw [HM.out, if_neg (by simp), if_neg h1]; exact Lib.hid rfl
      go_enter Try.func11, Try.ntmps11
      go_wp2_with fail
      refine (unhide HR).mono ?_
      rintro e w1 ⟨rfl, rfl⟩
      simp only [tri]
      go_wp2_with (with_reducible refine halt_dst 36 rfl ?_)
      refine go_on (wpList_sub _ rfl _ _ _ _ rfl _ 1 Try.underlying22 (by kernel_rfl) A bs.length c q (q + m) rfl (.inl ⟨rfl, rfl⟩) (.inl ⟨rfl, by omega⟩) (by omega) (by omega) ?_)
      have hx := ((hrd.sub (c := c) (s := 1) q (by simpa using hcap)).take m)
      rw [Nat.mul_one, ← List.map_drop, ← List.map_take] at hx
      have hcv := run_toStr (P := Try.prog) w _ _ _ Try.underlying22 Try.underlying5 Try.underlying9 _ m (c - q) _ hx (by rw [List.length_take, List.length_drop]; omega)
      go_wp2
      go_ret3
      exact Same.mk (triS_mk HM'.out rfl)
  · have HM' : Hid (textM bs at_ most = ([], 0, e)) := by rw [HM.out, if_pos he]; exact Lib.hid rfl
    have hb : (e != 0) = true := by simpa using he
    clear he
    go_enter Try.func11, Try.ntmps11
    go_wp2_with fail
    refine (unhide HR).mono ?_
    rintro e w1 ⟨rfl, rfl⟩
    simp only [tri]
    go_wp2
    go_ret3
    exact Same.mk (triS_mk HM'.out rfl)

/-- What Bool returns. -/
def boolM (bs : List UInt8) (at_ : Nat) : Bool × Int × Int :=
  match bs.drop at_ with
  | [] => (false, 0, 4)
  | x :: _ => if 1 < x.toNat then (false, 0, 3) else (x.toNat == 1, (at_ : Int) + 1, 0)
def triB (r : Bool × Int × Int) : Value := .tuple #[.bool r.1, .int .i64 r.2.1, .int .i64 r.2.2]
theorem triB_mk {r : Bool × Int × Int} {a : Bool} {b c : Int} (h : r = (a, b, c)) : Value.tuple #[.bool a, .int .i64 b, .int .i64 c] = triB r := by subst h; rfl

theorem bool_any (A : Option Addr) (c : Nat) (bs : List UInt8) (at_ : Nat) (w : World) (hrd : Rd w A (bs.map bv)) (hlen : bs.length ≤ 1000000) (ha : at_ < bs.length) :
    Calls Try.prog 18 #[.slice A bs.length c, .int .i64 (at_ : Int)] w (Same w (triB (boolM bs at_))) := by
  obtain ⟨x, hx, hx'⟩ := drop_get ha
  obtain ⟨ad, rfl, hc⟩ := hrd.at_ hx'
  clear hx'
  have hb : ((at_ : Int) == (bs.length : Int)) = false := by simp; omega
  by_cases h1 : 1 < x.toNat
  · have HM : Hid (boolM bs at_ = (false, 0, 3)) := by unfold boolM; rw [hx]; simp only; rw [if_pos h1]; exact Lib.hid rfl
    clear hx
    go_enter Try.func18, Try.ntmps18
    go_wp2
    go_ret3
    exact Same.mk (triB_mk HM.out)
  · have HM : Hid (boolM bs at_ = (x.toNat == 1, (at_ : Int) + 1, 0)) := by unfold boolM; rw [hx]; simp only; rw [if_neg h1]; exact Lib.hid rfl
    clear hx
    go_enter Try.func18, Try.ntmps18
    go_wp2
    go_ret3
    exact Same.mk (triB_mk (by rw [HM.out]; congr 1; rw [Bool.eq_iff_iff]; simp; omega))
end Go.Proofs.Ytjeabbbplibgkaa
