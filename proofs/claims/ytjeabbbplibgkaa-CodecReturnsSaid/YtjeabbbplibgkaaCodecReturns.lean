/-
  Values that are encoded one after the other are decoded again, whatever precedes and follows: the law CodecReturns returns true for every case. No condition.
-/
import Derived.Test.YtjeabbbplibgkaaCodecW
import Derived.Test.YtjeabbbplibgkaaOpenB
import Derived.Lib.SmallJoins
namespace Go.Proofs.Ytjeabbbplibgkaa.codecReturns
open Go.ChangeShapes Go.WideShapes Go.ChangeAt Go.RowKit
set_option linter.unusedVariables false

theorem intM_enc {l r : List UInt8} {k : Nat} {n : Int} (n1 : -9223372036854775808 ≤ n) (n2 : n < 9223372036854775808) (hl : l.drop k = enc (zig n) ++ r) (lo hi : Int) (h1 : lo ≤ n) (h2 : n ≤ hi) (hk : k ≤ l.length) :
    intM l k lo hi = (n, (k : Int) + ((enc (zig n)).length : Nat), 0) := by
  unfold intM
  rw [if_neg (by omega)]
  simp only [Int.toNat_natCast]
  rw [hl, rawM_of 0 (zig n) r (by simpa using zig_lt n1 n2) (by omega) (by omega)]
  simp only [ne_eq, not_true, if_false, zag_zig]
  rw [if_neg (by omega)]
theorem textM_enc {l r s : List UInt8} {k : Nat} (hl : l.drop k = enc (zig s.length) ++ (s ++ r)) (hs : s.length ≤ 5000) (hk : k ≤ l.length) :
    textM l k s.length = (s, (k : Int) + ((enc (zig s.length)).length : Nat) + s.length, 0) := by
  have hi := intM_enc (k := k) (n := s.length) (by omega) (by omega) hl 0 s.length (by omega) (by omega) hk
  unfold textM
  rw [if_neg (by omega), hi]
  have hlen := congrArg List.length hl
  simp only [List.length_drop, List.length_append] at hlen
  simp only [ne_eq, not_true, if_false]
  rw [if_neg (by omega)]
  have e1 : ((k : Int) + ((enc (zig s.length)).length : Nat)).toNat = k + (enc (zig s.length)).length := by omega
  rw [e1, ← List.drop_drop, hl, Int.toNat_natCast, List.drop_left, List.take_left]
theorem boolM_enc {l r : List UInt8} {k : Nat} {x : Bool} (hl : l.drop k = (if x then 1 else 0) :: r) : boolM l k = (x, (k : Int) + 1, 0) := by
  unfold boolM
  rw [hl]
  cases x <;> simp

theorem own_new {base : Nat} {e : TypeId} {size : Nat} (w : World) (g : Nat) (hg : w.heap.size = g) (hb : base ≤ g) : (w.alloc (.cells #[] e)).ownsRow base e size (.slice (some ⟨g, 0, none⟩) 0 0) 0 [] := by
  subst hg
  exact World.ownsRow_made w _ 0 hb (by decide) (by simp)
theorem own_cap {w : World} {base : Nat} {e : TypeId} {size n c : Nat} {A : Option Addr} {xs : List Value} (h : w.ownsRow base e size (.slice A n c) n xs) : n ≤ c := by
  rcases h.2 with ⟨h1, h2⟩ | ⟨g, cap, cur, hv, _, _, hc, _⟩
  · omega
  · injection hv with _ _ h3
    omega
theorem bool_any' (A : Option Addr) (n c : Nat) (bs : List UInt8) (at_ : Nat) (k : Int) (w : World) (hn : bs.length = n) (hk : k = (at_ : Int)) (hrd : Rd w A (bs.map bv)) (hlen : bs.length ≤ 1000000) (ha : at_ < bs.length) :
    Calls Try.prog 18 #[.slice A n c, .int .i64 k] w (Same w (triB (boolM bs at_))) := by
  subst hn hk; exact bool_any A c bs at_ w hrd hlen ha
theorem putBool_any' (A : Option Addr) (n c : Nat) (bs : List UInt8) (x : Bool) (w : World) (hn : bs.length = n) (hrd : Rd w A (bs.map bv)) (hlen : bs.length ≤ 1000000) :
    Calls Try.prog 16 #[.slice A n c, .bool x] w (Ret w (IsB w.heap.size (bs ++ [if x then 1 else 0]))) := by
  subst hn; exact putBool_any A c bs x w hrd hlen

/-- What is encoded, with what precedes and follows. -/
def full (bs after : List UInt8) (n : Int) (s : List UInt8) (x : Bool) : List UInt8 := (bs ++ enc (zig n) ++ (enc (zig s.length) ++ s) ++ [if x then 1 else 0]) ++ after

set_option maxRecDepth 100000 in
set_option maxHeartbeats 1600000 in
theorem walk (A1 A2 : Option Addr) (c1 c2 : Nat) (bs after : List UInt8) (n : Int) (s : ByteArray) (x : Bool) (w : World) (h1 : Rd w A1 (bs.map bv)) (h2 : Rd w A2 (after.map bv))
    (n1 : -9223372036854775808 ≤ n) (n2 : n < 9223372036854775808) (l1 : bs.length ≤ 5000) (l2 : after.length ≤ 5000) (l3 : s.size ≤ 5000) :
    Calls Try.prog 6 #[.agg #[.slice A1 bs.length c1, .slice A2 after.length c2, .int .i64 n, .string s, .bool x]] w (Ret w (Is (.bool true))) := by
  have N1 := Lib.hid (And.intro n1 n2)
  clear n1 n2
  go_enter Try.func6, Try.ntmps6
  go_wp2_with fail
  go_quiet (fail)
  go_wp2_with (first | (at_make; refine halt_at ?_) | (at_builtin; refine halt_at ?_))
  refine go_on (appB w rfl _ _ rfl ((((Ext.rfl' w).al _).drN _).al _) _ 0 [] rfl (own_new _ _ (by simp) (by simp)) A1 bs.length c1 (bs.map bv) rfl (h1.ext ((((Ext.rfl' w).al _).drN _).al _)) (by simp) (bv_one _) (by omega) ?_)
  intro A3 c3 w2 hown he
  simp only [Nat.zero_add, List.nil_append] at hown
  have hr := Rd.of_own hown
  clear hown
  go_wp2_with fail
  refine (putInt_any _ _ bs _ _ hr (by omega) N1.out.1 N1.out.2).mono ?_
  rintro e w3 ⟨v, rfl, hB, he3⟩
  obtain ⟨A4, c4, rfl, hr4⟩ := hB.rd
  have hE := he.tr he3
  clear hB he he3 hr
  have q1 : (enc (zig n)).length ≤ 10 := enc_len10 (zig_lt N1.out.1 N1.out.2)
  have q2 : (enc (zig s.size)).length ≤ 10 := enc_len10 (zig_lt (by omega) (by omega))
  go_wp2_with fail
  refine (putText_any' _ _ _ (bs ++ enc (zig n)) _ _ (by simp) hr4 (by simp only [List.length_append]; omega) (by omega)).mono ?_
  rintro e w4 ⟨v, rfl, hB, he⟩
  obtain ⟨A5, c5, rfl, hr5⟩ := hB.rd
  have hE4 := hE.tr he
  clear hB he hr4 hE
  have q3 : s.data.toList.length ≤ 5000 := by rw [size_list]; omega
  go_wp2_with fail
  refine (putBool_any' _ _ _ (bs ++ enc (zig n) ++ (enc (zig s.size) ++ s.data.toList)) _ _ (by simp) hr5 (by simp only [List.length_append]; omega)).mono ?_
  rintro e w5 ⟨v, rfl, hB, he⟩
  obtain ⟨A6, c6, rfl, hr6⟩ := hB.rd
  have hE5 := hE4.tr he
  clear hB he hr5 hE4
  have hLl : (bs ++ enc (zig n) ++ (enc (zig s.size) ++ s.data.toList) ++ [if x = true then 1 else 0]).length ≤ 10021 := by simp only [List.length_append, List.length_singleton]; omega
  generalize hL : (bs ++ enc (zig n) ++ (enc (zig s.size) ++ s.data.toList) ++ [if x = true then 1 else 0]) = L at *
  have e1 : (L ++ after).drop bs.length = enc (zig n) ++ (enc (zig s.size) ++ s.data.toList ++ [if x = true then 1 else 0] ++ after) := by
    rw [← hL]; simp [List.append_assoc]
  have e2 : (L ++ after).drop (bs.length + (enc (zig n)).length) = enc (zig (s.data.toList.length)) ++ (s.data.toList ++ ([if x = true then 1 else 0] ++ after)) := by
    rw [← List.drop_drop, e1, List.drop_left, size_list]; simp [List.append_assoc]
  have e3 : (L ++ after).drop (bs.length + (enc (zig n)).length + (enc (zig s.size)).length + s.size) = (if x = true then 1 else 0) :: after := by
    rw [← List.drop_drop, ← List.drop_drop, e2, ← size_list, List.drop_left, List.drop_left]; simp
  have lL : L.length = bs.length + (enc (zig n)).length + (enc (zig s.size)).length + s.size + 1 := by
    rw [← hL]; simp only [List.length_append, List.length_singleton, size_list]; omega
  have I1 := Lib.hid (intM_enc N1.out.1 N1.out.2 e1 n n (Int.le_refl _) (Int.le_refl _) (by simp only [List.length_append]; omega))
  have I2 := Lib.hid (textM_enc e2 q3 (by simp only [List.length_append]; omega))
  have I3 := Lib.hid (boolM_enc e3)
  have LL := Lib.hid lL
  rw [size_list] at I2
  clear e1 e2 e3 hL lL
  go_wp2_with (first | (at_make; refine halt_at ?_) | (at_builtin; refine halt_at ?_))
  refine go_on (appB w rfl _ _ rfl (hE5.al _) _ 0 [] rfl (own_new _ _ (by simp) (by simp [hE5.size])) A6 L.length c6 (L.map bv) rfl (hr6.ext ((Ext.rfl' _).al _)) (by simp) (bv_one _) (by omega) ?_)
  intro A7 c7 w7 hown he
  simp only [Nat.zero_add, List.nil_append] at hown
  clear hr6 hE5
  go_wp2_with (first | (at_make; refine halt_at ?_) | (at_builtin; refine halt_at ?_))
  refine go_on (appB w rfl _ _ rfl he _ _ _ rfl hown A2 after.length c2 (after.map bv) rfl (h2.ext he) (by simp) (bv_one _) (by omega) ?_)
  intro A8 c8 w8 hown8 he8
  rw [← List.map_append] at hown8
  have hr8 := Rd.of_own hown8
  have hc8 := own_cap hown8
  clear hown8 hown he
  go_wp2_with fail
  refine (int_any' _ _ _ (L ++ after) _ _ _ _ (by simp) hr8 (by simp only [List.length_append]; omega)).mono ?_
  rintro e w3 ⟨rfl, rfl⟩
  rw [I1.out]
  simp only [tri]
  go_wp2_with fail
  refine (text_any' _ _ _ (L ++ after) _ _ _ (by simp) hr8 (by simp only [List.length_append]; omega) (by simp only [List.length_append]; omega)).mono ?_
  rintro e w3 ⟨rfl, rfl⟩
  rw [← Int.natCast_add, I2.out]
  simp only [triS]
  go_wp2_with fail
  refine (bool_any' _ _ _ (L ++ after) _ _ _ (by simp) (show _ = ((bs.length + (enc (zig n)).length + (enc (zig s.size)).length + s.size : Nat) : Int) by omega) hr8 (by simp only [List.length_append]; omega) (by have := LL.out; simp only [List.length_append]; omega)).mono ?_
  rintro e w3 ⟨rfl, rfl⟩
  rw [I3.out]
  simp only [triB]
  have b1 : ((((bs.length + (enc (zig n)).length + (enc (zig s.size)).length + s.size : Nat) : Int) + 1) == (L.length : Int)) = true := by
    have := LL.out; rw [beq_iff_eq]; omega
  have b2 : ((bs.length : Int) + ((enc (zig n)).length : Int) + ((enc (zig s.size)).length : Int) + (s.size : Int) + 1 == (L.length : Int)) = true := by
    have := LL.out; rw [beq_iff_eq]; omega
  go_wp2_with fail
  refine (awake_any _).mono ?_
  rintro e w9 ⟨v, rfl, hv, he9⟩
  obtain rfl : v = .bool true := hv
  go_wp2
  go_ret
  exact Ret.mk rfl (he8.tr he9)

theorem great (A1 A2 : Option Addr) (c1 c2 : Nat) (bs after : List UInt8) (n : Int) (s : ByteArray) (x : Bool) (w : World) (m1 : bs.length ≤ 9223372036854775807) (m2 : after.length ≤ 9223372036854775807) (m3 : s.size ≤ 9223372036854775807)
    (l : 5000 < bs.length ∨ 5000 < after.length ∨ 5000 < s.size) :
    Calls Try.prog 6 #[.agg #[.slice A1 bs.length c1, .slice A2 after.length c2, .int .i64 n, .string s, .bool x]] w (Ret w (Is (.bool true))) := by
  by_cases h1 : 5000 < bs.length
  · clear l
    go_enter Try.func6, Try.ntmps6
    go_wp2_with fail
    go_quiet (fail)
    go_wp2_with fail
    refine (awake_any _).mono ?_
    rintro e w9 ⟨v, rfl, hv, he9⟩
    obtain rfl : v = .bool true := hv
    go_wp2
    go_ret
    exact Ret.mk rfl ((((Ext.rfl' w).al _).drN _).tr he9)
  by_cases h2 : 5000 < after.length
  · clear l
    go_enter Try.func6, Try.ntmps6
    go_wp2_with fail
    go_quiet (fail)
    go_wp2_with fail
    refine (awake_any _).mono ?_
    rintro e w9 ⟨v, rfl, hv, he9⟩
    obtain rfl : v = .bool true := hv
    go_wp2
    go_ret
    exact Ret.mk rfl ((((Ext.rfl' w).al _).drN _).tr he9)
  have h3 : 5000 < s.size := by omega
  clear l
  go_enter Try.func6, Try.ntmps6
  go_wp2_with fail
  go_quiet (fail)
  go_wp2_with fail
  refine (awake_any _).mono ?_
  rintro e w9 ⟨v, rfl, hv, he9⟩
  obtain rfl : v = .bool true := hv
  go_wp2
  go_ret
  exact Ret.mk rfl ((((Ext.rfl' w).al _).drN _).tr he9)

open Go.Joins Go.Deep in
theorem open_agg5 {H : Type} {enc : TypeId × Value → H} {P : Program} {w : World} {base : Nat} {spare : Nat → Bool} {held : Bool} {r : Reach} {b0 : Nat} {t : TypeId} {f0 f1 f2 f3 f4 : Field} {v : Value} {d : DataW H} {p : List MemPlace}
    (hs : P.underlying t = some (.struct #[f0, f1, f2, f3, f4])) (hone : oneCellFields P #[f0, f1, f2, f3, f4] = true) (hC : P.cellsOf t = 5)
    (hv : Value.okWide P w r b0 t v) (h : DataW.Trod enc P w base spare held t v d p) :
    ∃ (v0 v1 v2 v3 v4 : Value) (y0 y1 y2 y3 y4 : DataW H × List MemPlace) (n : Nat), v = .agg #[v0, v1, v2, v3, v4] ∧
      DataW.trod enc P w base spare held n f0.type [v0] = some y0 ∧ DataW.trod enc P w base spare held n f1.type [v1] = some y1 ∧ DataW.trod enc P w base spare held n f2.type [v2] = some y2 ∧ DataW.trod enc P w base spare held n f3.type [v3] = some y3 ∧ DataW.trod enc P w base spare held n f4.type [v4] = some y4 := by
  obtain ⟨cs, rfl, hsz⟩ := okWide_struct hs hv
  obtain ⟨l⟩ := cs
  match l, hsz.trans hC with
  | [c0, c1, c2, c3, c4], _ =>
    obtain ⟨fuel, hf⟩ := h
    obtain ⟨xs, n, _, hx, _, hlen, hg⟩ := DataW.trod_struct hs hf
    obtain ⟨o0, k0⟩ := hone_of hone 0 f0 rfl
    obtain ⟨o1, k1⟩ := hone_of hone 1 f1 rfl
    obtain ⟨o2, k2⟩ := hone_of hone 2 f2 rfl
    obtain ⟨o3, k3⟩ := hone_of hone 3 f3 rfl
    obtain ⟨o4, k4⟩ := hone_of hone 4 f4 rfl
    match xs, hlen with
    | [y0, y1, y2, y3, y4], _ =>
      exact ⟨c0, c1, c2, c3, c4, y0, y1, y2, y3, y4, n, rfl, by simpa [Value.cells, o0, k0] using hg 0 f0 rfl, by simpa [Value.cells, o1, k1] using hg 1 f1 rfl, by simpa [Value.cells, o2, k2] using hg 2 f2 rfl, by simpa [Value.cells, o3, k3] using hg 3 f3 rfl, by simpa [Value.cells, o4, k4] using hg 4 f4 rfl⟩

theorem holds : Holds 6 Try.f6 := by
  intro H enc W base args ds p hval hA
  rw [Try.params6] at hA hval
  obtain ⟨v0, vs0, d0, ds0, p0, q0, hargs, rfl, rfl, h0, r0⟩ := trodAll_cons hA
  obtain ⟨rfl, rfl, rfl⟩ := trodAll_nil r0
  obtain rfl : args = #[v0] := by cases args; simp_all
  obtain ⟨a0, a1, a2, a3, a4, y0, y1, y2, y3, y4, n, rfl, g0, g1, g2, g3, g4⟩ := open_agg5 Try.underlying37 (by kernel_rfl) (by kernel_rfl) (hval 0 37 _ rfl rfl) h0
  obtain ⟨A1, c1, bs, e0, k1, m1, r1⟩ := open_bytesF g0
  obtain ⟨A2, c2, after, e1, k2, m2, r2⟩ := open_bytesF g1
  obtain ⟨k, e2, _, hk⟩ := DataW.trod_int Try.underlying3 g2
  obtain ⟨s, e3, _, hs⟩ := DataW.trod_string Try.underlying9 g3
  obtain ⟨x, e4, _⟩ := DataW.trod_bool Try.underlying4 g4
  simp only [List.cons.injEq, and_true] at e0 e1 e2 e3 e4
  subst e0 e1 e2 e3 e4
  unfold maxLen at hs
  by_cases hl : 5000 < bs.length ∨ 5000 < after.length ∨ 5000 < s.size
  · exact great A1 A2 c1 c2 bs after k s x W (by omega) (by omega) (by omega) hl
  · exact walk A1 A2 c1 c2 bs after k s x W r1 r2 (i64_bounds hk).1 (i64_bounds hk).2 (by omega) (by omega) (by omega)

set_option maxRecDepth 100000 in
theorem lifted (os : Os) (started : os.Started) (H : Type) (enc : TypeId × Value → H) :
    ReturnsInHanded {} Try.checked os 6 .any (Rows.codecReturnsSpec.pre6 enc Try.prog Try.f6 Rows.codecReturnsRow.domain false) (Rows.codecReturnsSpec.post enc Try.prog Try.f6 false true false false) := by
  refine returnsInHanded_of_change (C := Try.checked) own started (by kernel_rfl) Try.func6
    (ChangeSpec.witness6 (enc := enc) (C := Try.checked) false ⟨#[], #[.agg #[.slice none 0 0, .slice none 0 0, .int .i64 0, .string ⟨#[]⟩, .bool false]], []⟩ 8 (by kernel_rfl) (by kernel_rfl) (by kernel_rfl) (by kernel_rfl)) ?_
  intro W base args ds gs before hval hW _ _
  exact law_contract holds rfl (by kernel_rfl) rfl rfl (fun H ds h => by
    match ds, h with
    | [_], _ => rfl) W base args ds gs before hval hW

theorem over : Rows.codecReturnsRow.holds Try.pinned (OpenSpec.ofChange Rows.codecReturnsSpec) :=
  OpenClaim.holds_of_wide 6 Try.f6 rfl rfl rfl rfl rfl rfl rfl ⟨rfl, rfl, rfl, rfl, rfl⟩ rfl rfl rfl rfl rfl (by kernel_rfl) Try.func6 (by kernel_rfl)
    (of_decide_eq_true (by kernel_rfl)) (by unfold Func.isWrapper; first | (rw [if_pos (by decide +kernel)]; kernel_rfl) | (rw [if_neg (by decide +kernel)]; exact ⟨rfl, rfl⟩))
    (fun os started H enc _ => lifted os started H enc)

theorem proved : Rows.CodecReturnsSaid :=
  over
#print axioms proved
end Go.Proofs.Ytjeabbbplibgkaa.codecReturns
