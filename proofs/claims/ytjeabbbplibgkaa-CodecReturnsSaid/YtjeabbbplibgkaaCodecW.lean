/-
  The walk of the fixed examples of layer 1: they hold.
-/
import Derived.Test.YtjeabbbplibgkaaCodecR
import Derived.Test.YtjeabbbplibgkaaCodecG
namespace Go.Proofs.Ytjeabbbplibgkaa
open Go.RowKit

theorem ex1 : intM [9, 128, 1] 1 0 64 = (64, 3, 0) := by decide +kernel
theorem ex2 : intM [128, 0] 0 0 9 = (0, 0, 3) := by decide +kernel
theorem ex3 : textM [4, 97, 98] 0 2 = ([97, 98], 3, 0) := by decide +kernel
theorem ex4 : enc (zig (-3)) = [5] := by decide +kernel

theorem int_any' (A : Option Addr) (n c : Nat) (bs : List UInt8) (at_ lo hi : Int) (w : World) (hn : bs.length = n) (hrd : Rd w A (bs.map bv)) (hlen : bs.length ≤ 1000000) :
    Calls Try.prog 8 #[.slice A n c, .int .i64 at_, .int .i64 lo, .int .i64 hi] w (Same w (tri (intM bs at_ lo hi))) := by
  subst hn; exact int_any A c bs at_ lo hi w hrd hlen
theorem text_any' (A : Option Addr) (n c : Nat) (bs : List UInt8) (at_ most : Int) (w : World) (hn : bs.length = n) (hrd : Rd w A (bs.map bv)) (hlen : bs.length ≤ 1000000) (hcap : bs.length ≤ c) :
    Calls Try.prog 11 #[.slice A n c, .int .i64 at_, .int .i64 most] w (Same w (triS (textM bs at_ most))) := by
  subst hn; exact text_any A c bs at_ most w hrd hlen hcap
theorem putText_any' (A : Option Addr) (n c : Nat) (bs : List UInt8) (s : ByteArray) (w : World) (hn : bs.length = n) (hrd : Rd w A (bs.map bv)) (hlen : bs.length ≤ 1000000) (hs : s.size ≤ 1000000) :
    Calls Try.prog 12 #[.slice A n c, .string s] w (Ret w (IsB w.heap.size (bs ++ (enc (zig s.size) ++ s.data.toList)))) := by
  subst hn; exact putText_any A c bs s w hrd hlen hs
theorem putInt_any' (A : Option Addr) (n c : Nat) (bs : List UInt8) (k : Int) (w : World) (hn : bs.length = n) (hrd : Rd w A (bs.map bv)) (hlen : bs.length ≤ 1000000) (hk1 : -9223372036854775808 ≤ k) (hk2 : k < 9223372036854775808) :
    Calls Try.prog 10 #[.slice A n c, .int .i64 k] w (Ret w (IsB w.heap.size (bs ++ enc (zig k)))) := by
  subst hn; exact putInt_any A c bs k w hrd hlen hk1 hk2

set_option maxRecDepth 100000 in
set_option maxHeartbeats 800000 in
theorem awake_any (w : World) : Calls Try.prog 7 #[] w (Ret w (Is (.bool true))) := by
  go_enter Try.func7, Try.ntmps7
  go_wp2_with fail
  refine (int_any' _ 3 _ [9, 128, 1] _ _ _ _ rfl (Rd.new _ #[.int .u8 9, .int .u8 128, .int .u8 1] _) (by simp)).mono ?_
  rintro e w1 ⟨rfl, rfl⟩
  rw [ex1]
  simp only [tri]
  go_wp2_with fail
  refine (int_any' _ 2 _ [128, 0] _ _ _ _ rfl (Rd.newAt _ _ #[.int .u8 128, .int .u8 0] _ (by simp)) (by simp)).mono ?_
  rintro e w1 ⟨rfl, rfl⟩
  rw [ex2]
  simp only [tri]
  go_wp2_with fail
  refine (text_any' _ 3 3 [4, 97, 98] _ _ _ rfl (Rd.newAt _ _ #[.int .u8 4, .int .u8 97, .int .u8 98] _ (by simp)) (by simp) (by simp)).mono ?_
  rintro e w1 ⟨rfl, rfl⟩
  rw [ex3]
  simp only [triS]
  go_wp2_with fail
  refine (putInt_any' _ 1 _ [7] _ _ rfl (Rd.newAt _ _ #[.int .u8 7] _ (by simp)) (by simp) (by omega) (by omega)).mono ?_
  rintro e w1 ⟨v, rfl, hB, he⟩
  rw [ex4] at hB
  obtain ⟨A1, c1, rfl, hr⟩ := hB.rd
  have he' : Ext w w1 := (((((Ext.rfl' w).al _).al _).al _).al _).tr he
  clear he hB
  go_wp2_with fail
  refine (equal_any _ _ _ _ _ _ [7, 5] [7, 5] _ (hr.ext ((Ext.rfl' _).al _)) (Rd.newAt _ _ #[.int .u8 7, .int .u8 5] _ (by simp)) (Lib.hid (by simp)) (Lib.hid (by simp))).mono ?_
  rintro e w2 ⟨rfl, rfl⟩
  go_wp2
  go_ret
  exact Ret.mk rfl (he'.al _)
end Go.Proofs.Ytjeabbbplibgkaa
