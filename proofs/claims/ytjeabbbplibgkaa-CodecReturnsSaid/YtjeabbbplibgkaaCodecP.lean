/-
  The walks of the functions that put: PutInt, PutText and PutBool of the program and of the reference append the encoding to a copy.
-/
import Derived.Test.YtjeabbbplibgkaaBytes
namespace Go.Proofs.Ytjeabbbplibgkaa
open Go.RowKit

theorem nat_xor_ones (x : Nat) (h : x < 18446744073709551616) : x ^^^ 18446744073709551615 = 18446744073709551615 - x := by
  have h1 : (BitVec.ofNat 64 x ^^^ BitVec.allOnes 64).toNat = 18446744073709551615 - x := by
    rw [BitVec.xor_allOnes, BitVec.toNat_not, BitVec.toNat_ofNat, Nat.mod_eq_of_lt (by omega)]
  rw [BitVec.toNat_xor, BitVec.toNat_ofNat, BitVec.toNat_allOnes, Nat.mod_eq_of_lt (by omega)] at h1
  exact h1
theorem zig_eq (k : Int) (h1 : -9223372036854775808 ≤ k) (h2 : k < 9223372036854775808) :
    bits .xor .u64 (IntKind.u64.wrap (IntKind.u64.wrap k * 2)) (IntKind.u64.wrap (k / 9223372036854775808)) = ((zig k : Nat) : Int) := by
  rw [IntKind.wrap_u64, IntKind.wrap_u64, IntKind.wrap_u64]
  unfold zig
  by_cases h : 0 ≤ k
  · rw [if_pos h]
    obtain ⟨n, rfl⟩ := Int.eq_ofNat_of_zero_le h
    rw [show ((n : Int) / 9223372036854775808 % 18446744073709551616) = ((0 : Nat) : Int) by omega, show (n : Int) % 18446744073709551616 * 2 % 18446744073709551616 = ((2 * n : Nat) : Int) by omega]
    rw [bits_xor_u64_nat _ _ (by omega) (by omega), Nat.xor_zero]
    omega
  · rw [if_neg h]
    rw [show (k / 9223372036854775808 % 18446744073709551616) = ((18446744073709551615 : Nat) : Int) by omega, show k % 18446744073709551616 * 2 % 18446744073709551616 = ((18446744073709551616 - (-2 * k).toNat : Nat) : Int) by omega]
    rw [bits_xor_u64_nat _ _ (by omega) (by omega), nat_xor_ones _ (by omega)]
    omega
theorem or128 : ∀ x : Fin 256, (x.val ||| 128) = x.val % 128 + 128 := by decide +kernel
theorem or_eq (u : Nat) : bits .or .u8 ((u : Int) % 256) 128 = (((UInt8.ofNat (u % 128 + 128)).toNat : Nat) : Int) := by
  rw [show ((u : Int) % 256) = ((u % 256 : Nat) : Int) by omega, show (128 : Int) = ((128 : Nat) : Int) by rfl, u8_or_nat _ _ (by omega) (by omega), or128 ⟨u % 256, by omega⟩]
  simp only [UInt8.toNat_ofNat']
  omega
theorem last_eq {u : Nat} (h : u < 128) : (u : Int) = (((UInt8.ofNat u).toNat : Nat) : Int) := by
  simp only [UInt8.toNat_ofNat']
  omega

/-- What a loop over the groups carries: what has been put, and what is left. -/
def PutRel (W : World) (all : List UInt8) (v5 v6 : Value) (wr : World) : Prop :=
  ∃ (ys : List UInt8) (u : Nat) (A' : Option Addr) (c' : Nat), v5 = .slice A' ys.length c' ∧ v6 = .int .u64 (u : Int) ∧ Hid (u < 18446744073709551616) ∧ Hid (ys ++ enc u = all) ∧ Hid (ys.length ≤ all.length) ∧
    wr.ownsRow W.heap.size 5 1 (.slice A' ys.length c') ys.length (ys.map bv) ∧ Ext W wr
theorem PutRel.mk {W wr : World} {all ys : List UInt8} {u : Nat} {A' : Option Addr} {c' : Nat} (hu : u < 18446744073709551616) (h : ys ++ enc u = all)
    (ho : wr.ownsRow W.heap.size 5 1 (.slice A' ys.length c') ys.length (ys.map bv)) (he : Ext W wr) : PutRel W all (.slice A' ys.length c') (.int .u64 (u : Int)) wr :=
  ⟨ys, u, A', c', rfl, rfl, hu, h, by have := congrArg List.length h; simp only [List.length_append] at this; exact Lib.hid (by omega), ho, he⟩
theorem PutRel.next {W wr : World} {all ys : List UInt8} {u : Nat} {A' : Option Addr} {c' : Nat} (hb : 128 ≤ u) (hu : u < 18446744073709551616) (h : ys ++ enc u = all)
    (ho : wr.ownsRow W.heap.size 5 1 (.slice A' (ys.length + 1) c') (ys.length + 1) (ys.map bv ++ [.int .u8 ((UInt8.ofNat (u % 128 + 128)).toNat : Int)])) (he : Ext W wr) : PutRel W all (.slice A' (ys.length + 1) c') (.int .u64 ((u : Int) / 128)) wr := by
  have := PutRel.mk (W := W) (wr := wr) (all := all) (ys := ys ++ [UInt8.ofNat (u % 128 + 128)]) (u := u / 128) (A' := A') (c' := c') (by omega) (by rw [← h, enc_big hb]; simp) (by simpa [bv] using ho) he
  simpa using this
theorem PutRel.done {W wr : World} {all ys : List UInt8} {u : Nat} {A' : Option Addr} {c' : Nat} (hb : u < 128) (h : ys ++ enc u = all)
    (ho : wr.ownsRow W.heap.size 5 1 (.slice A' (ys.length + 1) c') (ys.length + 1) (ys.map bv ++ [.int .u8 (u : Int)])) : IsB W.heap.size all (.slice A' (ys.length + 1) c') wr := by
  rw [enc_small hb] at h
  subst h
  rw [last_eq hb] at ho
  exact IsB.mk ho (by simp [bv]) (by simp)

set_option maxRecDepth 100000 in
set_option maxHeartbeats 400000 in
theorem putInt_any (A : Option Addr) (c : Nat) (bs : List UInt8) (k : Int) (w : World) (hrd : Rd w A (bs.map bv)) (hlen : bs.length ≤ 1000000) (hk1 : -9223372036854775808 ≤ k) (hk2 : k < 9223372036854775808) :
    Calls Try.prog 10 #[.slice A bs.length c, .int .i64 k] w (Ret w (IsB w.heap.size (bs ++ enc (zig k)))) := by
  have hz := zig_lt hk1 hk2
  have hl10 := enc_len10 hz
  go_enter Try.func10, Try.ntmps10
  go_wp2_with (first | (at_make; refine halt_at ?_) | (at_builtin; refine halt_at ?_))
  refine go_on (mkB w rfl _ _ rfl (Ext.rfl' w) _ (bs.length + 10) rfl rfl (by omega) (by omega) ?_)
  intro A1 w1 hown1 he1
  go_wp2_with (first | (at_make; refine halt_at ?_) | (at_builtin; refine halt_at ?_))
  refine go_on (appB w rfl _ _ rfl he1 _ _ _ rfl hown1 A bs.length c (bs.map bv) rfl (hrd.ext he1) (by simp) (bv_one _) (by omega) ?_)
  intro A2 c2 w2 hown2 he2
  clear hown1 he1
  go_wp2
  rw [zig_eq k hk1 hk2]
  have HZ := Lib.hid hz
  clear hz hk1 hk2
  simp only [Nat.zero_add, List.nil_append] at hown2
  go_loopw [5, 6] (PutRel w (bs ++ enc (zig k))) (fun _ v6 _ => (intOf v6).toNat)
  case atStart => exact PutRel.mk HZ.out rfl hown2 he2
  case round =>
    clear hown2 he2
    obtain ⟨ys, u, A', c', rfl, rfl, hu, hys, hl, hown, he⟩ := hrel
    have hl' : ys.length ≤ bs.length + 10 := by have := hl.out; simp only [List.length_append] at this; omega
    by_cases hb : 128 ≤ u
    · go_wp2_with (first | (at_make; refine halt_at ?_) | (at_builtin; refine halt_at ?_))
      refine go_on (appB w rfl _ _ rfl (he.al _) _ _ _ rfl (hown.alloc _) _ 1 1 _ rfl (Rd.new _ _ _) rfl (one_u8 _) (by omega) ?_)
      intro A3 c3 w3 hown3 he3
      rw [or_eq] at hown3
      clear hown he
      go_wp2
      go_roundw
      case rel => exact PutRel.next hb hu.out hys.out hown3 he3
      case measure => simp [intOf]; omega
    · go_wp2_with (first | (at_make; refine halt_at ?_) | (at_builtin; refine halt_at ?_))
      refine go_on (appB w rfl _ _ rfl (he.al _) _ _ _ rfl (hown.alloc _) _ 1 1 _ rfl (Rd.new _ _ _) rfl (one_u8 _) (by omega) ?_)
      intro A3 c3 w3 hown3 he3
      clear hown he
      go_wp2
      go_ret
      exact Ret.mk (PutRel.done (by omega) hys.out hown3) he3

theorem putText_any (A : Option Addr) (c : Nat) (bs : List UInt8) (s : ByteArray) (w : World) (hrd : Rd w A (bs.map bv)) (hlen : bs.length ≤ 1000000) (hs : s.size ≤ 1000000) :
    Calls Try.prog 12 #[.slice A bs.length c, .string s] w (Ret w (IsB w.heap.size (bs ++ (enc (zig s.size) ++ s.data.toList)))) := by
  have hl10 : (enc (zig s.size)).length ≤ 10 := enc_len10 (zig_lt (by omega) (by omega))
  go_enter Try.func12, Try.ntmps12
  go_wp2_with fail
  refine (putInt_any A c bs _ _ hrd hlen (by omega) (by omega)).mono ?_
  rintro e w1 ⟨v, rfl, hB, he⟩
  obtain ⟨A1, c1, rfl, hown⟩ := hB.own
  have hL : (bs ++ enc (zig s.size)).length ≤ bs.length + 10 := by simp only [List.length_append]; omega
  generalize hys : bs ++ enc (zig s.size) = ys at *
  have HY := Lib.hid hys
  clear hys
  go_wp2_with (first | (at_make; refine halt_at ?_) | (at_builtin; refine halt_at ?_))
  refine go_on (appS w rfl _ _ rfl he _ _ _ rfl hown s rfl (by omega) ?_)
  intro A3 c3 w3 hown3 he3
  clear hown he
  go_wp2
  go_ret
  exact Ret.mk (IsB.mk hown3 (by rw [← List.append_assoc, HY.out]; simp) (by rw [← List.append_assoc, HY.out, List.length_append, Array.length_toList]; rfl)) he3

theorem putBool_any (A : Option Addr) (c : Nat) (bs : List UInt8) (x : Bool) (w : World) (hrd : Rd w A (bs.map bv)) (hlen : bs.length ≤ 1000000) :
    Calls Try.prog 16 #[.slice A bs.length c, .bool x] w (Ret w (IsB w.heap.size (bs ++ [if x then 1 else 0]))) := by
  cases x
  all_goals
    go_enter Try.func16, Try.ntmps16
    go_wp2_with (first | (at_make; refine halt_at ?_) | (at_builtin; refine halt_at ?_))
    refine go_on (mkB w rfl _ _ rfl (Ext.rfl' w) _ (bs.length + 1) rfl rfl (by omega) (by omega) ?_)
    intro A1 w1 hown1 he1
    go_wp2_with (first | (at_make; refine halt_at ?_) | (at_builtin; refine halt_at ?_))
    refine go_on (appB w rfl _ _ rfl he1 _ _ _ rfl hown1 A bs.length c (bs.map bv) rfl (hrd.ext he1) (by simp) (bv_one _) (by omega) ?_)
    intro A2 c2 w2 hown he
    simp only [Nat.zero_add, List.nil_append] at hown
    clear hown1 he1
    go_wp2_with (first | (at_make; refine halt_at ?_) | (at_builtin; refine halt_at ?_))
    refine go_on (appB w rfl _ _ rfl (he.al _) _ _ _ rfl (hown.alloc _) _ 1 1 _ rfl (Rd.new _ _ _) rfl (one_u8 _) (by omega) ?_)
    intro A3 c3 w3 hown3 he3
    clear hown he
    go_wp2
    go_ret
    exact Ret.mk (IsB.mk hown3 (by simp [bv]) (by simp)) he3

theorem refPutBool_any (A : Option Addr) (c : Nat) (bs : List UInt8) (x : Bool) (w : World) (hrd : Rd w A (bs.map bv)) (hlen : bs.length ≤ 1000000) :
    Calls Try.prog 17 #[.slice A bs.length c, .bool x] w (Ret w (IsB w.heap.size (bs ++ [if x then 1 else 0]))) := by
  cases x
  all_goals
    go_enter Try.func17, Try.ntmps17
    go_wp2_with (first | (at_make; refine halt_at ?_) | (at_builtin; refine halt_at ?_))
    refine go_on (appB w rfl _ _ rfl ((Ext.rfl' w).al _) _ 0 [] rfl (World.ownsRow_made w _ _ (Nat.le_refl _) (by decide) rfl) A bs.length c (bs.map bv) rfl (hrd.ext ((Ext.rfl' w).al _)) (by simp) (bv_one _) (by omega) ?_)
    intro A2 c2 w2 hown he
    simp only [Nat.zero_add, List.nil_append] at hown
    go_wp2_with (first | (at_make; refine halt_at ?_) | (at_builtin; refine halt_at ?_))
    refine go_on (appB w rfl _ _ rfl (he.al _) _ _ _ rfl (hown.alloc _) _ 1 1 _ rfl (Rd.new _ _ _) rfl (one_u8 _) (by omega) ?_)
    intro A3 c3 w3 hown3 he3
    clear hown he
    go_wp2
    go_ret
    exact Ret.mk (IsB.mk hown3 (by simp [bv]) (by simp)) he3

theorem ret_int {k : IntKind} {a b : Int} (h : a = b) : Ending.returned (.int k a) = .returned (.int k b) := by rw [h]
theorem unsigned_any (k : Int) (w : World) (hk1 : -9223372036854775808 ≤ k) (hk2 : k < 9223372036854775808) :
    Calls Try.prog 20 #[.int .i64 k] w fun e w' => e = .returned (.int .u64 (zig k : Nat)) ∧ w = w' := by
  by_cases h : 0 ≤ k
  · obtain ⟨n, rfl⟩ := Int.eq_ofNat_of_zero_le h
    have HF : Hid (zig (n : Int) = 2 * n) := by unfold zig; rw [if_pos (by omega)]; exact Lib.hid (by omega)
    go_enter Try.func20, Try.ntmps20
    go_wp2
    go_ret
    rw [HF.out]
    exact ⟨ret_int (by omega), rfl⟩
  · go_enter Try.func20, Try.ntmps20
    go_wp2
    go_ret
    exact ⟨ret_int (by unfold zig; rw [if_neg (by omega)]; omega), rfl⟩
end Go.Proofs.Ytjeabbbplibgkaa
