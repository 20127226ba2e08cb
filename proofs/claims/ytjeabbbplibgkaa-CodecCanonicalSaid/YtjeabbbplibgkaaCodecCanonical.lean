/-
  The bytes that Int and Text read are the encoding of what they return: the law CodecCanonical returns true for every slice of bytes and every offset. No condition.
-/
import Derived.Test.YtjeabbbplibgkaaCodecW
import Derived.Test.YtjeabbbplibgkaaOpenB
import Derived.Test.YtjeabbbplibgkaaSched
namespace Go.Proofs.Ytjeabbbplibgkaa.codecCanonical
open Go.ChangeShapes Go.WideShapes Go.ChangeAt Go.RowKit
set_option linter.unusedVariables false

theorem textM_ok {bs l : List UInt8} {at_ most next : Int} (h : textM bs at_ most = (l, next, 0)) (hl : bs.length ≤ 5000) :
    0 ≤ at_ ∧ at_ < next ∧ next ≤ bs.length ∧ (l.length : Int) ≤ most ∧ l.length ≤ 5000 ∧ (bs.drop at_.toNat).take (next.toNat - at_.toNat) = enc (zig l.length) ++ l ∧ (next.toNat - at_.toNat) = (enc (zig l.length) ++ l).length := by
  unfold textM at h
  split at h
  · simp at h
  · split at h
    · simp only [Prod.mk.injEq] at h; omega
    · rename_i h0 h1
      have h1 : (intM bs at_ 0 most).2.2 = 0 := by simpa using h1
      split at h
      · simp at h
      · rename_i h2
        rcases hr : intM bs at_ 0 most with ⟨n, i, e⟩
        rw [hr] at h h1 h2
        simp only at h h1 h2
        subst h1
        obtain ⟨p1, p2, p3, p4, p5, _, _, p8, p9⟩ := intM_ok hr
        simp only [Prod.mk.injEq] at h
        obtain ⟨rfl, rfl, _⟩ := h
        obtain ⟨m, rfl⟩ := Int.eq_ofNat_of_zero_le p4
        have hll : ((bs.drop i.toNat).take (m : Int).toNat).length = m := by rw [List.length_take, List.length_drop]; omega
        rw [hll]
        have e1 : (i + (m : Int)).toNat - at_.toNat = (i.toNat - at_.toNat) + m := by omega
        refine ⟨by omega, by omega, by omega, by omega, by omega, ?_, ?_⟩
        · rw [e1, List.take_add, p8, List.drop_drop, show at_.toNat + (i.toNat - at_.toNat) = i.toNat by omega]
          simp
        · rw [e1, List.length_append, ← p9, hll]
theorem textM_err {bs l : List UInt8} {at_ most next e : Int} (h : textM bs at_ most = (l, next, e)) (he : e ≠ 0) : l = [] ∧ next = 0 := by
  unfold textM at h
  split at h
  · simp at h; exact ⟨h.1, h.2.1.symm⟩
  · split at h
    · simp at h; exact ⟨h.1, h.2.1.symm⟩
    · split at h
      · simp at h; exact ⟨h.1, h.2.1.symm⟩
      · simp only [Prod.mk.injEq] at h; omega

theorem sub_rd {w : World} {A : Option Addr} {bs : List UInt8} {c q j : Nat} (hrd : Rd w A (bs.map bv)) (hc : bs.length ≤ c) : Rd w (subA A c q 1) (((bs.drop q).take (j - q)).map bv) := by
  have hx := (hrd.sub (c := c) (s := 1) q (by simpa using hc)).take (j - q)
  rwa [Nat.mul_one, ← List.map_drop, ← List.map_take] at hx

set_option maxRecDepth 100000 in
set_option maxHeartbeats 3200000 in
theorem walk_yy (A : Option Addr) (c : Nat) (bs : List UInt8) (at_ : Int) (w : World) (hrd : Rd w A (bs.map bv)) (hc : bs.length ≤ c) (h1 : bs.length ≤ 5000)
    (n : Int) (j : Nat) (hi : intM bs at_ (-9223372036854775808) 9223372036854775807 = (n, (j : Int), 0))
    (l : List UInt8) (k : Nat) (ht : textM bs at_ 5000 = (l, (k : Int), 0)) :
    Calls Try.prog 3 #[.slice A bs.length c, .int .i64 at_] w (Ret w (Is (.bool true))) := by
  have hI := hide (int_any A c bs at_ (-9223372036854775808) 9223372036854775807 w hrd (by omega))
  rw [hi] at hI
  obtain ⟨q, rfl⟩ := Int.eq_ofNat_of_zero_le (intM_ok hi).1
  obtain ⟨p1, p2, p3, _, _, p6, p7, p8, p9⟩ := intM_ok hi
  have P67 := Lib.hid (And.intro p6 p7)
  have HQ1 : Hid (enc (zig n) = (bs.drop q).take (j - q)) := Lib.hid (by simpa using p8.symm)
  have HL1 : Hid (Hid (((bs.drop q).take (j - q)).length = j - q)) := Lib.hid (Lib.hid (by rw [List.length_take, List.length_drop]; omega))
  have HX1 : Hid (Rd w (subA A c q 1) (((bs.drop q).take (j - q)).map bv)) := Lib.hid (sub_rd hrd hc)
  have t0 : decide ((j : Int) ≤ (q : Int)) = false := by simp; omega
  have t1 : decide ((bs.length : Int) < (j : Int)) = false := by simp; omega
  have t2 : decide (j ≤ q) = false := by simp; omega
  have t3 : decide (bs.length < j) = false := by simp; omega
  clear p6 p7 p8 p9 hi
  obtain ⟨r1, r2, r3, _, r5, r6, r7⟩ := textM_ok ht h1
  have HQ2 : Hid (enc (zig (ByteArray.mk l.toArray).size) ++ (ByteArray.mk l.toArray).data.toList = (bs.drop q).take (k - q)) := Lib.hid (by rw [show (ByteArray.mk l.toArray).size = l.length from rfl]; simpa using r6.symm)
  have HL2 : Hid (Hid (((bs.drop q).take (k - q)).length = k - q)) := Lib.hid (Lib.hid (by rw [List.length_take, List.length_drop]; omega))
  have HX2 : Hid (Rd w (subA A c q 1) (((bs.drop q).take (k - q)).map bv)) := Lib.hid (sub_rd hrd hc)
  have u0 : decide ((k : Int) ≤ (q : Int)) = false := by simp; omega
  have u1 : decide ((bs.length : Int) < (k : Int)) = false := by simp; omega
  have u2 : decide (k ≤ q) = false := by simp; omega
  have u3 : decide (bs.length < k) = false := by simp; omega
  have HT := Lib.hid ht
  clear r6 r7 ht
  go_enter Try.func3, Try.ntmps3
  go_wp2_with fail
  refine (unhide hI).mono ?_
  rintro e w3 ⟨rfl, rfl⟩
  simp only [tri]
  clear hI
  go_wp2_with fail
  refine wp_region_sched [(0, true), (1, true), (2, true), (3, true), (4, true), (5, true), (6, true), (7, true), (8, true), (9, true), (10, true), (11, true), (12, true), (13, true), (15, true), (16, true), (17, true), (18, true), (14, false), (19, false), (20, true), (21, true), (22, true)] (by kernel_rfl) (by kernel_rfl) (Ext w) (Ext.rfl' w).dr ?_
  iterate 17 (refine sQ rfl rfl ?_ ?_ ?_; rotate_left; (· (intro w' hw'; go_simp; try with_reducible rfl)); go_simp)
  refine sQ rfl rfl _ (fun w' _ => exec_sub w' _ _ _ _ rfl _ 1 Try.underlying22 (by kernel_rfl) A bs.length c q j rfl (.inl ⟨rfl, rfl⟩) (.inl ⟨rfl, rfl⟩) (by omega) (by omega)) ?_
  go_simp
  refine sL rfl rfl ?_
  go_wp2_with fail
  refine (putInt_any' _ 0 _ [] _ _ rfl (Rd.nil _ _) (by simp) P67.out.1 P67.out.2).mono ?_
  rintro e x1 ⟨v, rfl, hB, he⟩
  obtain ⟨A1, c1, rfl, hr⟩ := hB.rd
  have hE1 := (Ext.rfl' w).dr.tr he
  clear hB he
  rw [List.nil_append] at hr ⊢
  go_wp2_with fail
  refine SQ.mk hE1 ?_
  refine sL rfl rfl ?_
  go_wp2_with fail
  refine (equal_any _ _ _ _ _ _ _ _ _ hr (HX1.out.ext hE1) (Lib.hid (by simp <;> rfl)) HL1.out).mono ?_
  rintro e y ⟨rfl, rfl⟩
  rw [decide_eq_true HQ1.out]
  clear hr
  go_wp2_with fail
  refine SQ.mk hE1 ?_
  iterate 3 (refine sQ rfl rfl ?_ ?_ ?_; rotate_left; (· (intro w' hw'; go_simp; try with_reducible rfl)); go_simp)
  refine sE ?_
  go_wp2_with fail
  refine (text_any A c bs _ _ _ (hrd.ext hE1) (by omega) hc).mono ?_
  rintro e w3 ⟨rfl, rfl⟩
  rw [HT.out]
  simp only [triS]
  go_wp2_with fail
  refine wp_region_sched [(0, true), (1, true), (2, true), (3, true), (4, true), (5, true), (6, true), (7, true), (8, true), (9, true), (10, true), (11, true), (12, true), (13, true), (15, true), (16, true), (17, true), (18, true), (14, false), (19, false), (20, true), (21, true), (22, true)] (by kernel_rfl) (by kernel_rfl) (Ext x1) (Ext.rfl' x1).dr ?_
  iterate 17 (refine sQ rfl rfl ?_ ?_ ?_; rotate_left; (· (intro w' hw'; go_simp; try with_reducible rfl)); go_simp)
  refine sQ rfl rfl _ (fun w' _ => exec_sub w' _ _ _ _ rfl _ 1 Try.underlying22 (by kernel_rfl) A bs.length c q k rfl (.inl ⟨rfl, rfl⟩) (.inl ⟨rfl, rfl⟩) (by omega) (by omega)) ?_
  go_simp
  refine sL rfl rfl ?_
  go_wp2_with fail
  refine (putText_any' _ 0 _ [] _ _ rfl (Rd.nil _ _) (by simp) (by show l.length ≤ _; omega)).mono ?_
  rintro e x2 ⟨v, rfl, hB, he⟩
  obtain ⟨A2, c2, rfl, hr⟩ := hB.rd
  have hE2 := (Ext.rfl' x1).dr.tr he
  clear hB he
  rw [List.nil_append] at hr ⊢
  go_wp2_with fail
  refine SQ.mk hE2 ?_
  refine sL rfl rfl ?_
  go_wp2_with fail
  refine (equal_any _ _ _ _ _ _ _ _ _ hr ((HX2.out.ext hE1).ext hE2) (Lib.hid (by simp <;> rfl)) HL2.out).mono ?_
  rintro e y ⟨rfl, rfl⟩
  rw [decide_eq_true HQ2.out]
  clear hr
  go_wp2_with fail
  refine SQ.mk hE2 ?_
  iterate 3 (refine sQ rfl rfl ?_ ?_ ?_; rotate_left; (· (intro w' hw'; go_simp; try with_reducible rfl)); go_simp)
  refine sE ?_
  go_wp2_with fail
  refine (awake_any _).mono ?_
  rintro e w7 ⟨v, rfl, hv, he⟩
  obtain rfl : v = .bool true := hv
  go_wp2
  go_ret
  exact Ret.mk rfl ((hE1.tr hE2).tr he)

set_option maxRecDepth 100000 in
set_option maxHeartbeats 3200000 in
theorem walk_yn (A : Option Addr) (c : Nat) (bs : List UInt8) (at_ : Int) (w : World) (hrd : Rd w A (bs.map bv)) (hc : bs.length ≤ c) (h1 : bs.length ≤ 5000)
    (n : Int) (j : Nat) (hi : intM bs at_ (-9223372036854775808) 9223372036854775807 = (n, (j : Int), 0))
    (e2 : Int) (ht : textM bs at_ 5000 = ([], 0, e2)) (he2 : e2 ≠ 0) :
    Calls Try.prog 3 #[.slice A bs.length c, .int .i64 at_] w (Ret w (Is (.bool true))) := by
  have hI := hide (int_any A c bs at_ (-9223372036854775808) 9223372036854775807 w hrd (by omega))
  rw [hi] at hI
  obtain ⟨q, rfl⟩ := Int.eq_ofNat_of_zero_le (intM_ok hi).1
  obtain ⟨p1, p2, p3, _, _, p6, p7, p8, p9⟩ := intM_ok hi
  have P67 := Lib.hid (And.intro p6 p7)
  have HQ1 : Hid (enc (zig n) = (bs.drop q).take (j - q)) := Lib.hid (by simpa using p8.symm)
  have HL1 : Hid (Hid (((bs.drop q).take (j - q)).length = j - q)) := Lib.hid (Lib.hid (by rw [List.length_take, List.length_drop]; omega))
  have HX1 : Hid (Rd w (subA A c q 1) (((bs.drop q).take (j - q)).map bv)) := Lib.hid (sub_rd hrd hc)
  have t0 : decide ((j : Int) ≤ (q : Int)) = false := by simp; omega
  have t1 : decide ((bs.length : Int) < (j : Int)) = false := by simp; omega
  have t2 : decide (j ≤ q) = false := by simp; omega
  have t3 : decide (bs.length < j) = false := by simp; omega
  clear p6 p7 p8 p9 hi
  have b2 : (e2 == 0) = false := by simpa using he2
  have HT := Lib.hid ht
  clear ht he2
  go_enter Try.func3, Try.ntmps3
  go_wp2_with fail
  refine (unhide hI).mono ?_
  rintro e w3 ⟨rfl, rfl⟩
  simp only [tri]
  clear hI
  go_wp2_with fail
  refine wp_region_sched [(0, true), (1, true), (2, true), (3, true), (4, true), (5, true), (6, true), (7, true), (8, true), (9, true), (10, true), (11, true), (12, true), (13, true), (15, true), (16, true), (17, true), (18, true), (14, false), (19, false), (20, true), (21, true), (22, true)] (by kernel_rfl) (by kernel_rfl) (Ext w) (Ext.rfl' w).dr ?_
  iterate 17 (refine sQ rfl rfl ?_ ?_ ?_; rotate_left; (· (intro w' hw'; go_simp; try with_reducible rfl)); go_simp)
  refine sQ rfl rfl _ (fun w' _ => exec_sub w' _ _ _ _ rfl _ 1 Try.underlying22 (by kernel_rfl) A bs.length c q j rfl (.inl ⟨rfl, rfl⟩) (.inl ⟨rfl, rfl⟩) (by omega) (by omega)) ?_
  go_simp
  refine sL rfl rfl ?_
  go_wp2_with fail
  refine (putInt_any' _ 0 _ [] _ _ rfl (Rd.nil _ _) (by simp) P67.out.1 P67.out.2).mono ?_
  rintro e x1 ⟨v, rfl, hB, he⟩
  obtain ⟨A1, c1, rfl, hr⟩ := hB.rd
  have hE1 := (Ext.rfl' w).dr.tr he
  clear hB he
  rw [List.nil_append] at hr ⊢
  go_wp2_with fail
  refine SQ.mk hE1 ?_
  refine sL rfl rfl ?_
  go_wp2_with fail
  refine (equal_any _ _ _ _ _ _ _ _ _ hr (HX1.out.ext hE1) (Lib.hid (by simp <;> rfl)) HL1.out).mono ?_
  rintro e y ⟨rfl, rfl⟩
  rw [decide_eq_true HQ1.out]
  clear hr
  go_wp2_with fail
  refine SQ.mk hE1 ?_
  iterate 3 (refine sQ rfl rfl ?_ ?_ ?_; rotate_left; (· (intro w' hw'; go_simp; try with_reducible rfl)); go_simp)
  refine sE ?_
  go_wp2_with fail
  refine (text_any A c bs _ _ _ (hrd.ext hE1) (by omega) hc).mono ?_
  rintro e w3 ⟨rfl, rfl⟩
  rw [HT.out]
  simp only [triS]
  go_wp2_with fail
  refine wp_region_sched [(0, true), (1, true), (2, true), (3, true), (4, true), (5, true), (6, true), (7, true), (8, true), (9, true), (10, true), (11, true), (12, true), (13, true), (15, true), (16, true), (17, true), (18, true), (14, false), (19, false), (20, true), (21, true), (22, true)] (by kernel_rfl) (by kernel_rfl) (Ext x1) (Ext.rfl' x1).dr ?_
  iterate 3 (refine sQ rfl rfl ?_ ?_ ?_; rotate_left; (· (intro w' hw'; go_simp; try with_reducible rfl)); go_simp)
  iterate 15 (refine sN rfl rfl ?_; go_simp)
  iterate 2 (refine sM rfl rfl ?_; go_simp)
  iterate 2 (refine sN rfl rfl ?_; go_simp)
  (refine sQ rfl rfl ?_ ?_ ?_; rotate_left; (· (intro w' hw'; go_simp; try with_reducible rfl)); go_simp)
  refine sE ?_
  have hE2 := (Ext.rfl' x1).dr
  go_wp2_with fail
  refine (awake_any _).mono ?_
  rintro e w7 ⟨v, rfl, hv, he⟩
  obtain rfl : v = .bool true := hv
  go_wp2
  go_ret
  exact Ret.mk rfl ((hE1.tr hE2).tr he)

set_option maxRecDepth 100000 in
set_option maxHeartbeats 3200000 in
theorem walk_ny (A : Option Addr) (c : Nat) (bs : List UInt8) (at_ : Int) (w : World) (hrd : Rd w A (bs.map bv)) (hc : bs.length ≤ c) (h1 : bs.length ≤ 5000)
    (e1 : Int) (hi : intM bs at_ (-9223372036854775808) 9223372036854775807 = (0, 0, e1)) (he1 : e1 ≠ 0)
    (l : List UInt8) (k : Nat) (ht : textM bs at_ 5000 = (l, (k : Int), 0)) :
    Calls Try.prog 3 #[.slice A bs.length c, .int .i64 at_] w (Ret w (Is (.bool true))) := by
  have hI := hide (int_any A c bs at_ (-9223372036854775808) 9223372036854775807 w hrd (by omega))
  rw [hi] at hI
  obtain ⟨q, rfl⟩ := Int.eq_ofNat_of_zero_le (textM_ok ht h1).1
  have b1 : (e1 == 0) = false := by simpa using he1
  clear hi he1
  obtain ⟨r1, r2, r3, _, r5, r6, r7⟩ := textM_ok ht h1
  have HQ2 : Hid (enc (zig (ByteArray.mk l.toArray).size) ++ (ByteArray.mk l.toArray).data.toList = (bs.drop q).take (k - q)) := Lib.hid (by rw [show (ByteArray.mk l.toArray).size = l.length from rfl]; simpa using r6.symm)
  have HL2 : Hid (Hid (((bs.drop q).take (k - q)).length = k - q)) := Lib.hid (Lib.hid (by rw [List.length_take, List.length_drop]; omega))
  have HX2 : Hid (Rd w (subA A c q 1) (((bs.drop q).take (k - q)).map bv)) := Lib.hid (sub_rd hrd hc)
  have u0 : decide ((k : Int) ≤ (q : Int)) = false := by simp; omega
  have u1 : decide ((bs.length : Int) < (k : Int)) = false := by simp; omega
  have u2 : decide (k ≤ q) = false := by simp; omega
  have u3 : decide (bs.length < k) = false := by simp; omega
  have HT := Lib.hid ht
  clear r6 r7 ht
  go_enter Try.func3, Try.ntmps3
  go_wp2_with fail
  refine (unhide hI).mono ?_
  rintro e w3 ⟨rfl, rfl⟩
  simp only [tri]
  clear hI
  go_wp2_with fail
  refine wp_region_sched [(0, true), (1, true), (2, true), (3, true), (4, true), (5, true), (6, true), (7, true), (8, true), (9, true), (10, true), (11, true), (12, true), (13, true), (15, true), (16, true), (17, true), (18, true), (14, false), (19, false), (20, true), (21, true), (22, true)] (by kernel_rfl) (by kernel_rfl) (Ext w) (Ext.rfl' w).dr ?_
  iterate 3 (refine sQ rfl rfl ?_ ?_ ?_; rotate_left; (· (intro w' hw'; go_simp; try with_reducible rfl)); go_simp)
  iterate 15 (refine sN rfl rfl ?_; go_simp)
  iterate 2 (refine sM rfl rfl ?_; go_simp)
  iterate 2 (refine sN rfl rfl ?_; go_simp)
  (refine sQ rfl rfl ?_ ?_ ?_; rotate_left; (· (intro w' hw'; go_simp; try with_reducible rfl)); go_simp)
  refine sE ?_
  have hE1 := (Ext.rfl' w).dr
  go_wp2_with fail
  refine (text_any A c bs _ _ _ (hrd.ext hE1) (by omega) hc).mono ?_
  rintro e w3 ⟨rfl, rfl⟩
  rw [HT.out]
  simp only [triS]
  go_wp2_with fail
  refine wp_region_sched [(0, true), (1, true), (2, true), (3, true), (4, true), (5, true), (6, true), (7, true), (8, true), (9, true), (10, true), (11, true), (12, true), (13, true), (15, true), (16, true), (17, true), (18, true), (14, false), (19, false), (20, true), (21, true), (22, true)] (by kernel_rfl) (by kernel_rfl) (Ext w.drew) (Ext.rfl' w.drew).dr ?_
  iterate 17 (refine sQ rfl rfl ?_ ?_ ?_; rotate_left; (· (intro w' hw'; go_simp; try with_reducible rfl)); go_simp)
  refine sQ rfl rfl _ (fun w' _ => exec_sub w' _ _ _ _ rfl _ 1 Try.underlying22 (by kernel_rfl) A bs.length c q k rfl (.inl ⟨rfl, rfl⟩) (.inl ⟨rfl, rfl⟩) (by omega) (by omega)) ?_
  go_simp
  refine sL rfl rfl ?_
  go_wp2_with fail
  refine (putText_any' _ 0 _ [] _ _ rfl (Rd.nil _ _) (by simp) (by show l.length ≤ _; omega)).mono ?_
  rintro e x2 ⟨v, rfl, hB, he⟩
  obtain ⟨A2, c2, rfl, hr⟩ := hB.rd
  have hE2 := (Ext.rfl' w.drew).dr.tr he
  clear hB he
  rw [List.nil_append] at hr ⊢
  go_wp2_with fail
  refine SQ.mk hE2 ?_
  refine sL rfl rfl ?_
  go_wp2_with fail
  refine (equal_any _ _ _ _ _ _ _ _ _ hr ((HX2.out.ext hE1).ext hE2) (Lib.hid (by simp <;> rfl)) HL2.out).mono ?_
  rintro e y ⟨rfl, rfl⟩
  rw [decide_eq_true HQ2.out]
  clear hr
  go_wp2_with fail
  refine SQ.mk hE2 ?_
  iterate 3 (refine sQ rfl rfl ?_ ?_ ?_; rotate_left; (· (intro w' hw'; go_simp; try with_reducible rfl)); go_simp)
  refine sE ?_
  go_wp2_with fail
  refine (awake_any _).mono ?_
  rintro e w7 ⟨v, rfl, hv, he⟩
  obtain rfl : v = .bool true := hv
  go_wp2
  go_ret
  exact Ret.mk rfl ((hE1.tr hE2).tr he)

set_option maxRecDepth 100000 in
set_option maxHeartbeats 3200000 in
theorem walk_nn (A : Option Addr) (c : Nat) (bs : List UInt8) (at_ : Int) (w : World) (hrd : Rd w A (bs.map bv)) (hc : bs.length ≤ c) (h1 : bs.length ≤ 5000)
    (e1 : Int) (hi : intM bs at_ (-9223372036854775808) 9223372036854775807 = (0, 0, e1)) (he1 : e1 ≠ 0)
    (e2 : Int) (ht : textM bs at_ 5000 = ([], 0, e2)) (he2 : e2 ≠ 0) :
    Calls Try.prog 3 #[.slice A bs.length c, .int .i64 at_] w (Ret w (Is (.bool true))) := by
  have hI := hide (int_any A c bs at_ (-9223372036854775808) 9223372036854775807 w hrd (by omega))
  rw [hi] at hI
  have b1 : (e1 == 0) = false := by simpa using he1
  clear hi he1
  have b2 : (e2 == 0) = false := by simpa using he2
  have HT := Lib.hid ht
  clear ht he2
  go_enter Try.func3, Try.ntmps3
  go_wp2_with fail
  refine (unhide hI).mono ?_
  rintro e w3 ⟨rfl, rfl⟩
  simp only [tri]
  clear hI
  go_wp2_with fail
  refine wp_region_sched [(0, true), (1, true), (2, true), (3, true), (4, true), (5, true), (6, true), (7, true), (8, true), (9, true), (10, true), (11, true), (12, true), (13, true), (15, true), (16, true), (17, true), (18, true), (14, false), (19, false), (20, true), (21, true), (22, true)] (by kernel_rfl) (by kernel_rfl) (Ext w) (Ext.rfl' w).dr ?_
  iterate 3 (refine sQ rfl rfl ?_ ?_ ?_; rotate_left; (· (intro w' hw'; go_simp; try with_reducible rfl)); go_simp)
  iterate 15 (refine sN rfl rfl ?_; go_simp)
  iterate 2 (refine sM rfl rfl ?_; go_simp)
  iterate 2 (refine sN rfl rfl ?_; go_simp)
  (refine sQ rfl rfl ?_ ?_ ?_; rotate_left; (· (intro w' hw'; go_simp; try with_reducible rfl)); go_simp)
  refine sE ?_
  have hE1 := (Ext.rfl' w).dr
  go_wp2_with fail
  refine (text_any A c bs _ _ _ (hrd.ext hE1) (by omega) hc).mono ?_
  rintro e w3 ⟨rfl, rfl⟩
  rw [HT.out]
  simp only [triS]
  go_wp2_with fail
  refine wp_region_sched [(0, true), (1, true), (2, true), (3, true), (4, true), (5, true), (6, true), (7, true), (8, true), (9, true), (10, true), (11, true), (12, true), (13, true), (15, true), (16, true), (17, true), (18, true), (14, false), (19, false), (20, true), (21, true), (22, true)] (by kernel_rfl) (by kernel_rfl) (Ext w.drew) (Ext.rfl' w.drew).dr ?_
  iterate 3 (refine sQ rfl rfl ?_ ?_ ?_; rotate_left; (· (intro w' hw'; go_simp; try with_reducible rfl)); go_simp)
  iterate 15 (refine sN rfl rfl ?_; go_simp)
  iterate 2 (refine sM rfl rfl ?_; go_simp)
  iterate 2 (refine sN rfl rfl ?_; go_simp)
  (refine sQ rfl rfl ?_ ?_ ?_; rotate_left; (· (intro w' hw'; go_simp; try with_reducible rfl)); go_simp)
  refine sE ?_
  have hE2 := (Ext.rfl' w.drew).dr
  go_wp2_with fail
  refine (awake_any _).mono ?_
  rintro e w7 ⟨v, rfl, hv, he⟩
  obtain rfl : v = .bool true := hv
  go_wp2
  go_ret
  exact Ret.mk rfl ((hE1.tr hE2).tr he)

theorem walk (A : Option Addr) (c : Nat) (bs : List UInt8) (at_ : Int) (w : World) (hrd : Rd w A (bs.map bv)) (hc : bs.length ≤ c) (hm : c ≤ 9223372036854775807) :
    Calls Try.prog 3 #[.slice A bs.length c, .int .i64 at_] w (Ret w (Is (.bool true))) := by
  by_cases h1 : 5000 < bs.length
  · go_enter Try.func3, Try.ntmps3
    go_wp2_with fail
    refine (awake_any _).mono ?_
    rintro e w3 ⟨v, rfl, hv, he3⟩
    obtain rfl : v = .bool true := hv
    go_wp2
    go_ret
    exact Ret.mk rfl he3
  have h1 : bs.length ≤ 5000 := by omega
  rcases hi : intM bs at_ (-9223372036854775808) 9223372036854775807 with ⟨n, j, e1⟩
  rcases ht : textM bs at_ 5000 with ⟨l, k, e2⟩
  by_cases he1 : e1 = 0
  · subst he1
    obtain ⟨p1, p2, _⟩ := intM_ok hi
    obtain ⟨j, rfl⟩ := Int.eq_ofNat_of_zero_le (show 0 ≤ j by omega)
    by_cases he2 : e2 = 0
    · subst he2
      obtain ⟨r1, r2, _⟩ := textM_ok ht h1
      obtain ⟨k, rfl⟩ := Int.eq_ofNat_of_zero_le (show 0 ≤ k by omega)
      exact walk_yy A c bs at_ w hrd hc h1 n j hi l k ht
    · obtain ⟨rfl, rfl⟩ := textM_err ht he2
      exact walk_yn A c bs at_ w hrd hc h1 n j hi e2 ht he2
  · obtain ⟨rfl, rfl⟩ := intM_err hi he1
    by_cases he2 : e2 = 0
    · subst he2
      obtain ⟨r1, r2, _⟩ := textM_ok ht h1
      obtain ⟨k, rfl⟩ := Int.eq_ofNat_of_zero_le (show 0 ≤ k by omega)
      exact walk_ny A c bs at_ w hrd hc h1 e1 hi he1 l k ht
    · obtain ⟨rfl, rfl⟩ := textM_err ht he2
      exact walk_nn A c bs at_ w hrd hc h1 e1 hi he1 e2 ht he2

theorem holds : Holds 3 Try.f3 := by
  intro H enc W base args ds p hval hA
  rw [Try.params3] at hA hval
  obtain ⟨v0, vs0, d0, ds0, p0, q0, hargs, rfl, rfl, h0, r0⟩ := trodAll_cons hA
  obtain ⟨v1, vs1, d1, ds1, p1, q1, rfl, rfl, rfl, h1, r1⟩ := trodAll_cons r0
  obtain ⟨rfl, rfl, rfl⟩ := trodAll_nil r1
  obtain rfl : args = #[v0, v1] := by cases args; simp_all
  obtain ⟨A, c, bs, rfl, hc, hm, hrd⟩ := open_bytes (hval 0 22 v0 rfl rfl) h0
  obtain ⟨a1, rfl, rfl, rfl, w1⟩ := open_int Try.underlying3 (hval 1 3 v1 rfl rfl) h1
  exact walk A c bs a1 W hrd hc hm

set_option maxRecDepth 100000 in
theorem lifted (os : Os) (started : os.Started) (H : Type) (enc : TypeId × Value → H) :
    ReturnsInHanded {} Try.checked os 3 .any (Rows.codecCanonicalSpec.pre6 enc Try.prog Try.f3 Rows.codecCanonicalRow.domain false) (Rows.codecCanonicalSpec.post enc Try.prog Try.f3 false true false false) := by
  refine returnsInHanded_of_change (C := Try.checked) own started (by kernel_rfl) Try.func3
    (ChangeSpec.witness6 (enc := enc) (C := Try.checked) false ⟨#[], #[.slice none 0 0, .int .i64 0], []⟩ 8 (by kernel_rfl) (by kernel_rfl) (by kernel_rfl) (by kernel_rfl)) ?_
  intro W base args ds gs before hval hW _ _
  exact law_contract holds rfl (by kernel_rfl) rfl rfl (fun H ds h => by
    match ds, h with
    | [_, _], _ => rfl) W base args ds gs before hval hW

theorem over : Rows.codecCanonicalRow.holds Try.pinned (OpenSpec.ofChange Rows.codecCanonicalSpec) :=
  OpenClaim.holds_of_wide 3 Try.f3 rfl rfl rfl rfl rfl rfl rfl ⟨rfl, rfl, rfl, rfl, rfl⟩ rfl rfl rfl rfl rfl (by kernel_rfl) Try.func3 (by kernel_rfl)
    (of_decide_eq_true (by kernel_rfl)) (by unfold Func.isWrapper; first | (rw [if_pos (by decide +kernel)]; kernel_rfl) | (rw [if_neg (by decide +kernel)]; exact ⟨rfl, rfl⟩))
    (fun os started H enc _ => lifted os started H enc)

theorem proved : Rows.CodecCanonicalSaid :=
  over
#print axioms proved
end Go.Proofs.Ytjeabbbplibgkaa.codecCanonical
