/-
  PutInt, PutText and PutBool append the encoding that the reference defines: the law CodecPuts returns true for every slice of bytes, integer and string. No condition.
-/
import Derived.Test.YtjeabbbplibgkaaCodecW
import Derived.Test.YtjeabbbplibgkaaOpenB
namespace Go.Proofs.Ytjeabbbplibgkaa.codecPuts
open Go.ChangeShapes Go.WideShapes Go.ChangeAt Go.RowKit
set_option linter.unusedVariables false

set_option maxRecDepth 100000 in
set_option maxHeartbeats 1600000 in
theorem walk (A : Option Addr) (c : Nat) (bs : List UInt8) (n : Int) (s : ByteArray) (w : World) (hrd : Rd w A (bs.map bv)) (hl : bs.length ≤ 9223372036854775807) (hs : s.size ≤ 9223372036854775807)
    (n1 : -9223372036854775808 ≤ n) (n2 : n < 9223372036854775808) :
    Calls Try.prog 5 #[.slice A bs.length c, .int .i64 n, .string s] w (Ret w (Is (.bool true))) := by
  have N1 := Lib.hid (And.intro n1 n2)
  clear n1 n2
  by_cases h1 : 5000 < bs.length
  · go_enter Try.func5, Try.ntmps5
    go_wp2_with fail
    refine (awake_any _).mono ?_
    rintro e w3 ⟨v, rfl, hv, he3⟩
    obtain rfl : v = .bool true := hv
    go_wp2
    go_ret
    exact Ret.mk rfl he3
  by_cases h2 : 5000 < s.size
  · clear hl
    go_enter Try.func5, Try.ntmps5
    go_wp2_with fail
    refine (awake_any _).mono ?_
    rintro e w3 ⟨v, rfl, hv, he3⟩
    obtain rfl : v = .bool true := hv
    go_wp2
    go_ret
    exact Ret.mk rfl he3
  clear hl hs
  go_enter Try.func5, Try.ntmps5
  go_wp2_with fail
  refine (putInt_any' _ _ _ bs _ _ rfl hrd (by omega) N1.out.1 N1.out.2).mono ?_
  rintro e w1 ⟨v, rfl, hB, hE1⟩
  obtain ⟨A1, c1, rfl, hr1⟩ := hB.rd
  clear hB
  go_wp2_with fail
  refine (refPutInt_any _ _ bs _ _ (hrd.ext hE1) (by omega) N1.out.1 N1.out.2).mono ?_
  rintro e w2 ⟨v, rfl, hB, he⟩
  obtain ⟨A2, c2, rfl, hr2⟩ := hB.rd
  have hr1' := hr1.ext he
  have hE2 := hE1.tr he
  clear hB hr1 he hE1
  go_wp2_with fail
  refine (equal_any _ _ _ _ _ _ (bs ++ enc (zig n)) (bs ++ enc (zig n)) _ hr1' hr2 (Lib.hid (by simp)) (Lib.hid (by simp))).mono ?_
  rintro e w3 ⟨rfl, rfl⟩
  clear hr1' hr2
  rw [decide_eq_true rfl]
  go_wp2_with fail
  refine (putText_any _ _ bs _ _ (hrd.ext hE2) (by omega) (by omega)).mono ?_
  rintro e w3 ⟨v, rfl, hB, he⟩
  obtain ⟨A3, c3, rfl, hr1⟩ := hB.rd
  have hE3 := hE2.tr he
  clear hB he hE2
  go_wp2_with fail
  refine (refPutText_any _ _ bs _ _ (hrd.ext hE3) (by omega) (by omega)).mono ?_
  rintro e w4 ⟨v, rfl, hB, he⟩
  obtain ⟨A4, c4, rfl, hr2⟩ := hB.rd
  have hr1' := hr1.ext he
  have hE4 := hE3.tr he
  clear hB hr1 he hE3
  go_wp2_with fail
  refine (equal_any _ _ _ _ _ _ (bs ++ (enc (zig s.size) ++ s.data.toList)) (bs ++ (enc (zig s.size) ++ s.data.toList)) _ hr1' hr2 (Lib.hid (by simp)) (Lib.hid (by simp))).mono ?_
  rintro e w3 ⟨rfl, rfl⟩
  clear hr1' hr2
  rw [decide_eq_true rfl]
  go_wp2_with fail
  refine (putBool_any _ _ bs _ _ (hrd.ext hE4) (by omega)).mono ?_
  rintro e w5 ⟨v, rfl, hB, he⟩
  obtain ⟨A5, c5, rfl, hr1⟩ := hB.rd
  have hE5 := hE4.tr he
  clear hB he hE4
  go_wp2_with fail
  refine (refPutBool_any _ _ bs _ _ (hrd.ext hE5) (by omega)).mono ?_
  rintro e w6 ⟨v, rfl, hB, he⟩
  obtain ⟨A6, c6, rfl, hr2⟩ := hB.rd
  have hr1' := hr1.ext he
  have hE6 := hE5.tr he
  clear hB hr1 he hE5
  go_wp2_with fail
  refine (equal_any _ _ _ _ _ _ _ _ _ hr1' hr2 (Lib.hid (by simp)) (Lib.hid (by simp))).mono ?_
  rintro e w3 ⟨rfl, rfl⟩
  clear hr1' hr2
  rw [decide_eq_true rfl]
  go_wp2_with fail
  refine (awake_any _).mono ?_
  rintro e w7 ⟨v, rfl, hv, he⟩
  obtain rfl : v = .bool true := hv
  go_wp2
  go_ret
  exact Ret.mk rfl (hE6.tr he)

theorem holds : Holds 5 Try.f5 := by
  intro H enc W base args ds p hval hA
  rw [Try.params5] at hA hval
  obtain ⟨v0, vs0, d0, ds0, p0, q0, hargs, rfl, rfl, h0, r0⟩ := trodAll_cons hA
  obtain ⟨v1, vs1, d1, ds1, p1, q1, rfl, rfl, rfl, h1, r1⟩ := trodAll_cons r0
  obtain ⟨v2, vs2, d2, ds2, p2, q2, rfl, rfl, rfl, h2, r2⟩ := trodAll_cons r1
  obtain ⟨rfl, rfl, rfl⟩ := trodAll_nil r2
  obtain rfl : args = #[v0, v1, v2] := by cases args; simp_all
  obtain ⟨A, c, bs, rfl, hc, hm, hrd⟩ := open_bytes (hval 0 22 v0 rfl rfl) h0
  obtain ⟨a1, rfl, rfl, rfl, w1⟩ := open_int Try.underlying3 (hval 1 3 v1 rfl rfl) h1
  obtain ⟨s, rfl, rfl, rfl, hs⟩ := Go.ChangeMaps.open_string Try.underlying9 (hval 2 9 v2 rfl rfl) h2
  exact walk A c bs a1 s W hrd (by omega) (by unfold maxLen at hs; omega) (i64_bounds w1).1 (i64_bounds w1).2

set_option maxRecDepth 100000 in
theorem lifted (os : Os) (started : os.Started) (H : Type) (enc : TypeId × Value → H) :
    ReturnsInHanded {} Try.checked os 5 .any (Rows.codecPutsSpec.pre6 enc Try.prog Try.f5 Rows.codecPutsRow.domain false) (Rows.codecPutsSpec.post enc Try.prog Try.f5 false true false false) := by
  refine returnsInHanded_of_change (C := Try.checked) own started (by kernel_rfl) Try.func5
    (ChangeSpec.witness6 (enc := enc) (C := Try.checked) false ⟨#[], #[.slice none 0 0, .int .i64 0, .string ⟨#[]⟩], []⟩ 8 (by kernel_rfl) (by kernel_rfl) (by kernel_rfl) (by kernel_rfl)) ?_
  intro W base args ds gs before hval hW _ _
  exact law_contract holds rfl (by kernel_rfl) rfl rfl (fun H ds h => by
    match ds, h with
    | [_, _, _], _ => rfl) W base args ds gs before hval hW

theorem over : Rows.codecPutsRow.holds Try.pinned (OpenSpec.ofChange Rows.codecPutsSpec) :=
  OpenClaim.holds_of_wide 5 Try.f5 rfl rfl rfl rfl rfl rfl rfl ⟨rfl, rfl, rfl, rfl, rfl⟩ rfl rfl rfl rfl rfl (by kernel_rfl) Try.func5 (by kernel_rfl)
    (of_decide_eq_true (by kernel_rfl)) (by unfold Func.isWrapper; first | (rw [if_pos (by decide +kernel)]; kernel_rfl) | (rw [if_neg (by decide +kernel)]; exact ⟨rfl, rfl⟩))
    (fun os started H enc _ => lifted os started H enc)

theorem proved : Rows.CodecPutsSaid :=
  over
#print axioms proved
end Go.Proofs.Ytjeabbbplibgkaa.codecPuts
