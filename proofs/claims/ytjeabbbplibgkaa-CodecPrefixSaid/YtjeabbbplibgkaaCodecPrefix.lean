/-
  The encoding of an integer has 1 to 10 bytes and begins with the encoding of no other integer: the law CodecPrefix returns true for every pair of integers. No condition.
-/
import Derived.Test.YtjeabbbplibgkaaCodecW
import Derived.Test.YtjeabbbplibgkaaLaw
namespace Go.Proofs.Ytjeabbbplibgkaa.codecPrefix
open Go.ChangeShapes Go.WideShapes Go.ChangeAt Go.RowKit
set_option linter.unusedVariables false

theorem own_cap {w : World} {base : Nat} {e : TypeId} {size n c : Nat} {A : Option Addr} {xs : List Value} (h : w.ownsRow base e size (.slice A n c) n xs) : n ≤ c := by
  rcases h.2 with ⟨h1, h2⟩ | ⟨g, cap, cur, hv, _, _, hc, _⟩
  · omega
  · injection hv with _ _ h3
    omega
theorem enc_pre {u v : Nat} : decide (enc v <+: enc u) = decide (u = v) := by
  rw [decide_eq_decide]
  constructor
  · rintro ⟨t, ht⟩
    exact ((enc_prefix _ v u t [] (Nat.le_refl _) (by simpa using ht)).1).symm
  · rintro rfl; exact List.prefix_refl _
theorem zig_inj {a b : Int} : (zig a = zig b) = (a = b) := by
  rw [eq_iff_iff]
  exact ⟨fun h => by rw [← zag_zig a, h, zag_zig], fun h => by rw [h]⟩

set_option maxRecDepth 100000 in
set_option maxHeartbeats 800000 in
theorem walk (n m : Int) (n1 : -9223372036854775808 ≤ n) (n2 : n < 9223372036854775808) (m1 : -9223372036854775808 ≤ m) (m2 : m < 9223372036854775808) (w : World) :
    Calls Try.prog 4 #[.int .i64 n, .int .i64 m] w (Ret w (Is (.bool true))) := by
  have la := enc_len10 (zig_lt n1 n2)
  have lb := enc_pos (zig n)
  have HP : Hid (decide (enc (zig m) <+: enc (zig n)) = (n == m)) := by
    rw [enc_pre]
    refine Lib.hid ?_
    rw [Bool.eq_iff_iff, decide_eq_true_iff, zig_inj, beq_iff_eq]
  have N1 := Lib.hid (And.intro n1 n2)
  have M1 := Lib.hid (And.intro m1 m2)
  clear n1 n2 m1 m2
  go_enter Try.func4, Try.ntmps4
  go_wp2_with fail
  refine (putInt_any' _ 0 _ [] _ _ rfl (Rd.nil _ _) (by simp) N1.out.1 N1.out.2).mono ?_
  rintro e w1 ⟨v, rfl, hB, he⟩
  obtain ⟨A1, c1, rfl, ho1⟩ := hB.own
  have hr1 : Rd w1 A1 ((enc (zig n)).map bv) := Rd.of_own ho1
  have hc1 := own_cap ho1
  rw [List.nil_append] at ho1 hB hc1 ⊢
  clear ho1 hB
  go_wp2_with fail
  refine (putInt_any' _ 0 _ [] _ _ rfl (Rd.nil _ _) (by simp) M1.out.1 M1.out.2).mono ?_
  rintro e w2 ⟨v, rfl, hB, he2⟩
  obtain ⟨A2, c2, rfl, ho2⟩ := hB.own
  have hr2 : Rd w2 A2 ((enc (zig m)).map bv) := Rd.of_own ho2
  rw [List.nil_append] at ho2 hB ⊢
  clear ho2 hB
  have hE := he.tr he2
  have hr1' := hr1.ext he2
  clear he he2 hr1
  go_wp2_with fail
  refine (prefix_any A1 A2 _ _ c1 c2 (enc (zig n)) (enc (zig m)) _ hr1' hr2 (Lib.hid rfl) (Lib.hid rfl) hc1).mono ?_
  rintro e w3 ⟨rfl, rfl⟩
  rw [HP.out]
  go_wp2_with fail
  refine (awake_any _).mono ?_
  rintro e w3 ⟨v, rfl, hv, he3⟩
  obtain rfl : v = .bool true := hv
  go_wp2
  go_ret
  exact Ret.mk rfl (hE.tr he3)

theorem i64_bounds {n : Int} (h : (Lit.int .i64 n).wf = true) : -9223372036854775808 ≤ n ∧ n < 9223372036854775808 := by
  simp [Lit.wf, IntKind.min, IntKind.max, IntKind.signed, IntKind.bits] at h
  omega

theorem holds : Holds 4 Try.f4 := by
  intro H enc W base args ds p hval hA
  rw [Try.params4] at hA hval
  obtain ⟨v0, vs0, d0, ds0, p0, q0, hargs, rfl, rfl, h0, r0⟩ := trodAll_cons hA
  obtain ⟨v1, vs1, d1, ds1, p1, q1, rfl, rfl, rfl, h1, r1⟩ := trodAll_cons r0
  obtain ⟨rfl, rfl, rfl⟩ := trodAll_nil r1
  obtain rfl : args = #[v0, v1] := by cases args; simp_all
  obtain ⟨a0, rfl, rfl, rfl, w0⟩ := open_int Try.underlying3 (hval 0 3 v0 rfl rfl) h0
  obtain ⟨a1, rfl, rfl, rfl, w1⟩ := open_int Try.underlying3 (hval 1 3 v1 rfl rfl) h1
  exact walk a0 a1 (i64_bounds w0).1 (i64_bounds w0).2 (i64_bounds w1).1 (i64_bounds w1).2 W

set_option maxRecDepth 100000 in
theorem lifted (os : Os) (started : os.Started) (H : Type) (enc : TypeId × Value → H) :
    ReturnsInHanded {} Try.checked os 4 .any (Rows.codecPrefixSpec.pre6 enc Try.prog Try.f4 Rows.codecPrefixRow.domain false) (Rows.codecPrefixSpec.post enc Try.prog Try.f4 false true false false) := by
  refine returnsInHanded_of_change (C := Try.checked) own started (by kernel_rfl) Try.func4
    (ChangeSpec.witness6 (enc := enc) (C := Try.checked) false ⟨#[], #[.int .i64 0, .int .i64 0], []⟩ 8 (by kernel_rfl) (by kernel_rfl) (by kernel_rfl) (by kernel_rfl)) ?_
  intro W base args ds gs before hval hW _ _
  exact law_contract holds rfl (by kernel_rfl) rfl rfl (fun H ds h => by
    match ds, h with
    | [_, _], _ => rfl) W base args ds gs before hval hW

theorem over : Rows.codecPrefixRow.holds Try.pinned (OpenSpec.ofChange Rows.codecPrefixSpec) :=
  OpenClaim.holds_of_wide 4 Try.f4 rfl rfl rfl rfl rfl rfl rfl ⟨rfl, rfl, rfl, rfl, rfl⟩ rfl rfl rfl rfl rfl (by kernel_rfl) Try.func4 (by kernel_rfl)
    (of_decide_eq_true (by kernel_rfl)) (by unfold Func.isWrapper; first | (rw [if_pos (by decide +kernel)]; kernel_rfl) | (rw [if_neg (by decide +kernel)]; exact ⟨rfl, rfl⟩))
    (fun os started H enc _ => lifted os started H enc)

theorem proved : Rows.CodecPrefixSaid :=
  over
#print axioms proved
end Go.Proofs.Ytjeabbbplibgkaa.codecPrefix
