/-
  The walks of the reference's PutInt and PutText.
-/
import Derived.Test.YtjeabbbplibgkaaCodecP
namespace Go.Proofs.Ytjeabbbplibgkaa
open Go.RowKit

theorem big_eq {u : Nat} : ((u : Int) % 128 + 128) = (((UInt8.ofNat (u % 128 + 128)).toNat : Nat) : Int) := by
  simp only [UInt8.toNat_ofNat']
  omega

set_option maxRecDepth 100000 in
set_option maxHeartbeats 400000 in
theorem refPutInt_any (A : Option Addr) (c : Nat) (bs : List UInt8) (k : Int) (w : World) (hrd : Rd w A (bs.map bv)) (hlen : bs.length ≤ 1000000) (hk1 : -9223372036854775808 ≤ k) (hk2 : k < 9223372036854775808) :
    Calls Try.prog 14 #[.slice A bs.length c, .int .i64 k] w (Ret w (IsB w.heap.size (bs ++ enc (zig k)))) := by
  have hz := zig_lt hk1 hk2
  have hl10 := enc_len10 hz
  have HZ := Lib.hid hz
  clear hz
  go_enter Try.func14, Try.ntmps14
  go_wp2_with (first | (at_make; refine halt_at ?_) | (at_builtin; refine halt_at ?_))
  refine go_on (appB w rfl _ _ rfl ((Ext.rfl' w).al _) _ 0 [] rfl (World.ownsRow_made w _ _ (Nat.le_refl _) (by decide) rfl) A bs.length c (bs.map bv) rfl (hrd.ext ((Ext.rfl' w).al _)) (by simp) (bv_one _) (by omega) ?_)
  intro A2 c2 w2 hown2 he2
  simp only [Nat.zero_add, List.nil_append] at hown2
  go_wp2_with fail
  refine (unsigned_any k _ hk1 hk2).mono ?_
  rintro e w' ⟨rfl, rfl⟩
  clear hk1 hk2
  go_wp2
  go_loopw [5, 6] (PutRel w (bs ++ enc (zig k))) (fun _ v6 _ => (intOf v6).toNat)
  case atStart => exact PutRel.mk HZ.out rfl hown2 he2
  case round =>
    clear hown2 he2
    obtain ⟨ys, u, A', c', rfl, rfl, hu, hys, hl, hown, he⟩ := hrel
    have hl' : ys.length ≤ bs.length + 10 := by have := hl.out; simp only [List.length_append] at this; omega
    by_cases hb : 128 ≤ u
    · go_wp2_with (first | (at_make; refine halt_at ?_) | (at_builtin; refine halt_at ?_))
      refine go_on (appB w rfl _ _ rfl (he.al _) _ _ _ rfl (hown.alloc _) _ 1 1 _ rfl (Rd.new _ _ _) rfl (one_u8 _) (by omega) ?_)
      intro A3 c3 w3 hown3 he3
      rw [big_eq] at hown3
      clear hown he
      go_wp2
      rw [show IntKind.u64.wrap ((u : Int) / 128) = (u : Int) / 128 from by have := hu.out; rw [IntKind.wrap_u64]; omega]
      go_roundw
      case rel => exact PutRel.next hb hu.out hys.out hown3 he3
      case measure => simp [intOf]; omega
    · go_wp2_with (first | (at_make; refine halt_at ?_) | (at_builtin; refine halt_at ?_))
      refine go_on (appB w rfl _ _ rfl (he.al _) _ _ _ rfl (hown.alloc _) _ 1 1 _ rfl (Rd.new _ _ _) rfl (one_u8 _) (by omega) ?_)
      intro A3 c3 w3 hown3 he3
      clear hown he
      go_wp2
      go_ret
      exact Ret.mk (PutRel.done (by omega) hys.out hown3) he3

/-- What the loop over a string's bytes carries. -/
def TextRel (W : World) (ys zs : List UInt8) (v5 v6 : Value) (wr : World) : Prop :=
  ∃ (k : Nat) (A' : Option Addr) (c' : Nat), v5 = .slice A' (ys.length + k) c' ∧ v6 = .int .i64 (k : Int) ∧ k ≤ zs.length ∧
    wr.ownsRow W.heap.size 5 1 (.slice A' (ys.length + k) c') (ys.length + k) ((ys ++ zs.take k).map bv) ∧ Ext W wr

theorem size_list (s : ByteArray) : s.data.toList.length = s.size := by rw [Array.length_toList]; rfl
theorem take_snoc (s : ByteArray) (k : Nat) (h : k < s.size) : s.data.toList.take (k + 1) = s.data.toList.take k ++ [s[k]] := by
  rw [List.take_succ_eq_append_getElem (by simpa using h)]; rfl

set_option maxHeartbeats 400000 in
theorem refPutText_any (A : Option Addr) (c : Nat) (bs : List UInt8) (s : ByteArray) (w : World) (hrd : Rd w A (bs.map bv)) (hlen : bs.length ≤ 1000000) (hs : s.size ≤ 1000000) :
    Calls Try.prog 15 #[.slice A bs.length c, .string s] w (Ret w (IsB w.heap.size (bs ++ (enc (zig s.size) ++ s.data.toList)))) := by
  have hl10 : (enc (zig s.size)).length ≤ 10 := enc_len10 (zig_lt (by omega) (by omega))
  go_enter Try.func15, Try.ntmps15
  go_wp2_with fail
  refine (refPutInt_any A c bs _ _ hrd hlen (by omega) (by omega)).mono ?_
  rintro e w1 ⟨v, rfl, hB, he⟩
  obtain ⟨A1, c1, rfl, hown⟩ := hB.own
  have hL : (bs ++ enc (zig s.size)).length ≤ bs.length + 10 := by simp only [List.length_append]; omega
  generalize hys : bs ++ enc (zig s.size) = ys at *
  have HY := Lib.hid hys
  clear hys
  go_wp2
  go_loopw [5, 6] (TextRel w ys s.data.toList) (fun _ v6 _ => s.size - (intOf v6).toNat)
  case atStart => exact ⟨0, A1, c1, by simp, rfl, by omega, by simpa using hown, he⟩
  case round =>
    clear hown he
    obtain ⟨k, A', c', rfl, rfl, hk, hown, he⟩ := hrel
    rw [size_list] at hk
    by_cases hlt : k < s.size
    · have hts := Lib.hid (take_snoc s k hlt)
      go_wp2_with (first | (at_make; refine halt_at ?_) | (at_builtin; refine halt_at ?_))
      refine go_on (appB w rfl _ _ rfl (he.al _) _ _ _ rfl (hown.alloc _) _ 1 1 _ rfl (Rd.new _ _ _) rfl (one_u8 _) (by omega) ?_)
      intro A3 c3 w3 hown3 he3
      clear hown he
      go_wp2
      go_roundw
      case rel => exact ⟨k + 1, A3, c3, by simp [Nat.add_assoc], by go_num, by rw [size_list]; omega, by rw [hts.out]; simpa [bv, Nat.add_assoc] using hown3, he3⟩
      case measure => simp [intOf]; omega
    · go_wp2
      go_ret
      have hk' : k = s.size := by omega
      subst hk'
      rw [← size_list, List.take_length] at hown
      refine Ret.mk (IsB.mk hown ?_ ?_) he
      · rw [← List.append_assoc, HY.out]
      · rw [← List.append_assoc, HY.out]; simp [size_list]
end Go.Proofs.Ytjeabbbplibgkaa
