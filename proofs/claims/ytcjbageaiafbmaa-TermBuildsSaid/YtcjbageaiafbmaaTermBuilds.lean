/-
  A functor that is built from terms has their sizes and 1, their greatest depth and 1, and their variables in order; it is valid exactly if its parts permit it: the law TermBuilds returns true for every name and every two terms. No condition.
-/
import Derived.Test.YtcjbageaiafbmaaOpenT
import Derived.Test.YtcjbageaiafbmaaLive
import Derived.Test.YtcjbageaiafbmaaSched
import Derived.Test.YtcjbageaiafbmaaVarsR
import Derived.Test.YtcjbageaiafbmaaOccurs
namespace Go.Proofs.Ytcjbageaiafbmaa.termBuilds
open Go.ChangeShapes Go.WideShapes Go.ChangeAt Go.RowKit
set_option linter.unusedVariables false

theorem open_str {H : Type} {enc : TypeId × Value → H} {W : World} {base : Nat} {sp : Nat → Bool} {hd : Bool} {b0 : Nat} {r : Reach} {v : Value} {d : DataW H} {ps : List MemPlace} (hv : Value.okWide Try.prog W r b0 9 v) (h : DataW.Trod enc Try.prog W base sp hd 9 v d ps) :
    ∃ s : ByteArray, v = .string s ∧ s.size ≤ 9223372036854775807 := by
  obtain ⟨s, rfl⟩ := okWide_string Try.underlying9 hv
  obtain ⟨fuel, hf⟩ := h
  obtain ⟨s', e, _, h2⟩ := DataW.trod_string Try.underlying9 hf
  simp [Value.cells] at e
  subst e
  exact ⟨s, rfl, by unfold maxLen at h2; omega⟩
theorem wrap_in (n : Int) (h : -9223372036854775808 ≤ n ∧ n ≤ 9223372036854775807) : IntKind.i64.wrap n = n := by rw [IntKind.wrap_i64]; omega
section
variable (s : ByteArray) (t u : T)
/-- The functor that is built. -/
def fn2 : T := .mk 2 0 s [t, u]
theorem fn2_open {w : World} {v : Value} (h : VT w (fn2 s t u) v) : ∃ A c, v = .agg #[.int .i64 2, .int .i64 0, .string s, .slice A 2 c] ∧ SlT w [t, u] (.slice A 2 c) := by
  obtain ⟨sl, rfl, h1, _⟩ := h.open_
  obtain ⟨A, c, xs, rfl, h2⟩ := h1
  exact ⟨A, c, rfl, A, c, xs, rfl, h2⟩
theorem fn2_size : ((sizeT (fn2 s t u) : Nat) : Int) = 1 + (sizeT t : Nat) + (sizeT u : Nat) := by
  simp only [fn2, sizeT, sizeL, if_true]
  omega
theorem fn2_depth : ((depthT (fn2 s t u) : Nat) : Int) = 1 + max ((depthT t : Nat) : Int) ((depthT u : Nat) : Int) := by
  simp only [fn2, depthT, depthL, if_true]
  omega
theorem fn2_occ : occT (fn2 s t u) = occL [t, u] := by simp [fn2, occT]
theorem fn2_ground : groundT (fn2 s t u) = (groundT t && groundT u) := by
  unfold groundT
  rw [fn2_occ]
  cases h : occT t <;> cases h2 : occT u <;> simp [occL, h, h2]
theorem fn2_wt : wt (fn2 s t u) = 1 + wtL [t, u] := by simp [fn2, wt]
theorem fn2_right : (rightT (fn2 s t u) && (!rightT t || !rightT u)) = false := by
  by_cases h : rightT (fn2 s t u) = true
  · have h1 := (rightT_iff _).1 h
    have h2 := (functor (t := fn2 s t u) rfl).1 h1
    have h3 : HoldsL [t, u] 199 19 := h2.2
    unfold HoldsL at h3
    simp only [formL, sizeL, depthL, Bool.and_eq_true, and_true] at h3
    have h4 : rightT t = true := (rightT_iff _).2 ⟨h3.1.1, by omega, by omega⟩
    have h5 : rightT u = true := (rightT_iff _).2 ⟨h3.1.2, by omega, by omega⟩
    simp [h4, h5]
  · simp [h]
theorem fn2_rightF : rightT (fn2 ⟨#[102]⟩ t u) = (rightT t && rightT u && decide (((sizeT (fn2 ⟨#[102]⟩ t u) : Nat) : Int) ≤ 200) && decide (((depthT (fn2 ⟨#[102]⟩ t u) : Nat) : Int) ≤ 20)) := by
  have hn : isName ⟨#[102]⟩ = true := isName_one (by decide)
  have hz := fn2_size ⟨#[102]⟩ t u
  have hd := fn2_depth ⟨#[102]⟩ t u
  rw [Bool.eq_iff_iff]
  simp only [Bool.and_eq_true, decide_eq_true_eq]
  rw [rightT_iff, rightT_iff, rightT_iff, functor (t := fn2 ⟨#[102]⟩ t u) rfl]
  unfold Holds1 HoldsL
  have hh : headF (fn2 ⟨#[102]⟩ t u) = true := by simp [headF, fn2, T.i, T.s, T.ar, hn]
  have ha : (fn2 ⟨#[102]⟩ t u).ar = [t, u] := rfl
  rw [ha, hh]
  simp only [formL, sizeL, depthL, Bool.and_eq_true, and_true, true_and]
  constructor
  · rintro ⟨⟨f1, f2⟩, a, b⟩
    exact ⟨⟨⟨⟨f1, by omega, by omega⟩, f2, by omega, by omega⟩, by omega⟩, by omega⟩
  · rintro ⟨⟨⟨⟨f1, -, -⟩, f2, -, -⟩, c⟩, d⟩
    exact ⟨⟨f1, f2⟩, by omega, by omega⟩
end

set_option maxRecDepth 100000 in
set_option maxHeartbeats 8000000 in
theorem walk (s : ByteArray) (t u : T) (v x : Value) (w : World) (hs : s.size ≤ 9223372036854775807) (ht : VT w t v) (hu : VT w u x) : Calls Try.prog 6 #[.string s, v, x] w (Ret w (Is (.bool true))) := by
  obtain ⟨st, rfl, hst, -⟩ := ht.open_
  obtain ⟨At, ct, xst, rfl, -⟩ := hst
  obtain ⟨su, rfl, hsu, -⟩ := hu.open_
  obtain ⟨Au, cu, xsu, rfl, -⟩ := hsu
  obtain ⟨y, hy⟩ : ∃ y, ((w.alloc (.cells #[.int .i64 t.k, .int .i64 t.i, .string t.s, .slice At t.ar.length ct] 24)).alloc (.cells #[.int .i64 u.k, .int .i64 u.i, .string u.s, .slice Au u.ar.length cu] 24)) = y := ⟨_, rfl⟩
  have hE : Hid (Ext w y) := Lib.hid (by rw [← hy]; exact (((Ext.rfl' w).al _).al _))
  have HCt : Hid (∀ w', Ext y w' → VT w' t (.agg #[.int .i64 t.k, .int .i64 t.i, .string t.s, .slice At t.ar.length ct])) := Lib.hid fun w' e => ht.ext (hE.out.tr e)
  have HCu : Hid (∀ w', Ext y w' → VT w' u (.agg #[.int .i64 u.k, .int .i64 u.i, .string u.s, .slice Au u.ar.length cu])) := Lib.hid fun w' e => hu.ext (hE.out.tr e)
  have bt0 : y.cell? ⟨w.heap.size, 0, none⟩ = some (.int .i64 t.k) := by rw [← hy]; exact ((Ext.rfl' _).al _).cellOf (box_at w #[.int .i64 t.k, .int .i64 t.i, .string t.s, .slice At t.ar.length ct] 24 0 _ (w.heap.size) (by simp) rfl)
  have bt1 : y.cell? ⟨w.heap.size, 1, none⟩ = some (.int .i64 t.i) := by rw [← hy]; exact ((Ext.rfl' _).al _).cellOf (box_at w #[.int .i64 t.k, .int .i64 t.i, .string t.s, .slice At t.ar.length ct] 24 1 _ (w.heap.size) (by simp) rfl)
  have bt2 : y.cell? ⟨w.heap.size, 2, none⟩ = some (.string t.s) := by rw [← hy]; exact ((Ext.rfl' _).al _).cellOf (box_at w #[.int .i64 t.k, .int .i64 t.i, .string t.s, .slice At t.ar.length ct] 24 2 _ (w.heap.size) (by simp) rfl)
  have bt3 : y.cell? ⟨w.heap.size, 3, none⟩ = some (.slice At t.ar.length ct) := by rw [← hy]; exact ((Ext.rfl' _).al _).cellOf (box_at w #[.int .i64 t.k, .int .i64 t.i, .string t.s, .slice At t.ar.length ct] 24 3 _ (w.heap.size) (by simp) rfl)
  have bu0 : y.cell? ⟨w.heap.size + 1, 0, none⟩ = some (.int .i64 u.k) := by rw [← hy]; exact box_at (w.alloc (.cells #[.int .i64 t.k, .int .i64 t.i, .string t.s, .slice At t.ar.length ct] 24)) #[.int .i64 u.k, .int .i64 u.i, .string u.s, .slice Au u.ar.length cu] 24 0 _ (w.heap.size + 1) (by simp) rfl
  have bu1 : y.cell? ⟨w.heap.size + 1, 1, none⟩ = some (.int .i64 u.i) := by rw [← hy]; exact box_at (w.alloc (.cells #[.int .i64 t.k, .int .i64 t.i, .string t.s, .slice At t.ar.length ct] 24)) #[.int .i64 u.k, .int .i64 u.i, .string u.s, .slice Au u.ar.length cu] 24 1 _ (w.heap.size + 1) (by simp) rfl
  have bu2 : y.cell? ⟨w.heap.size + 1, 2, none⟩ = some (.string u.s) := by rw [← hy]; exact box_at (w.alloc (.cells #[.int .i64 t.k, .int .i64 t.i, .string t.s, .slice At t.ar.length ct] 24)) #[.int .i64 u.k, .int .i64 u.i, .string u.s, .slice Au u.ar.length cu] 24 2 _ (w.heap.size + 1) (by simp) rfl
  have bu3 : y.cell? ⟨w.heap.size + 1, 3, none⟩ = some (.slice Au u.ar.length cu) := by rw [← hy]; exact box_at (w.alloc (.cells #[.int .i64 t.k, .int .i64 t.i, .string t.s, .slice At t.ar.length ct] 24)) #[.int .i64 u.k, .int .i64 u.i, .string u.s, .slice Au u.ar.length cu] 24 3 _ (w.heap.size + 1) (by simp) rfl
  clear ht hu
  have hss := Lib.hid hs
  have HG := hide (fun w' (e : Ext y w') ty => great_any [t, u] _ 500 _ (two_slice (HCt.out _ e) (HCu.out _ e) ty _ rfl) (by omega) (by omega))
  by_cases hgr : weighF 64 [t, u] 500 < 0
  · have hg : Hid (decide (weighF 64 [t, u] 500 < 0) = true) := Lib.hid (decide_eq_true hgr)
    clear hgr
    go_enter Try.func6, Try.ntmps6
    go_wp2_with fail
    refine (live_any _).mono ?_
    rintro e w1 ⟨v, rfl, hv, hE1⟩
    obtain rfl : v = _ := hv
    have zt0 := hE1.cellOf bt0
    have zt1 := hE1.cellOf bt1
    have zt2 := hE1.cellOf bt2
    have zt3 := hE1.cellOf bt3
    have zu0 := hE1.cellOf bu0
    have zu1 := hE1.cellOf bu1
    have zu2 := hE1.cellOf bu2
    have zu3 := hE1.cellOf bu3
    go_wp2_with fail
    refine ((unhide HG) _ hE1 _).mono ?_
    rintro e w2 ⟨v, rfl, hv, he2⟩
    obtain rfl : v = _ := hv
    rw [hg.out]
    have hE2 := (hE1.al _).tr he2
    clear he2
    clear zt0 zt1 zt2 zt3 zu0 zu1 zu2 zu3
    go_wp2
    go_ret
    exact Ret.mk rfl (hE.out.tr hE2)
  have hw : Hid (wt t ≤ 500 ∧ wt u ≤ 500 ∧ wtL [t, u] ≤ 500) := Lib.hid (by have := weigh_wt 64 [t, u] 500 (by omega); simp only [wtL] at this ⊢; omega)
  have hg : Hid (decide (weighF 64 [t, u] 500 < 0) = false) := Lib.hid (decide_eq_false hgr)
  clear hgr
  by_cases h4 : 400 < s.size
  · have h4' : (s.size : Int) > 400 := by omega
    go_enter Try.func6, Try.ntmps6
    go_wp2_with fail
    refine (live_any _).mono ?_
    rintro e w1 ⟨v, rfl, hv, hE1⟩
    obtain rfl : v = _ := hv
    have zt0 := hE1.cellOf bt0
    have zt1 := hE1.cellOf bt1
    have zt2 := hE1.cellOf bt2
    have zt3 := hE1.cellOf bt3
    have zu0 := hE1.cellOf bu0
    have zu1 := hE1.cellOf bu1
    have zu2 := hE1.cellOf bu2
    have zu3 := hE1.cellOf bu3
    go_wp2_with fail
    refine ((unhide HG) _ hE1 _).mono ?_
    rintro e w2 ⟨v, rfl, hv, he2⟩
    obtain rfl : v = _ := hv
    rw [hg.out]
    have hE2 := (hE1.al _).tr he2
    clear he2
    clear zt0 zt1 zt2 zt3 zu0 zu1 zu2 zu3
    go_wp2
    go_ret
    exact Ret.mk rfl (hE.out.tr hE2)
  have hzt : sizeT t ≤ 500 := by have := size_wt t; have := hw.out; omega
  have hzu : sizeT u ≤ 500 := by have := size_wt u; have := hw.out; omega
  have hdt : depthT t ≤ 500 := by have := depth_wt t; have := hw.out; omega
  have hdu : depthT u ≤ 500 := by have := depth_wt u; have := hw.out; omega
  have hwp : Hid (∀ r, wt (fn2 r t u) ≤ 1000) := Lib.hid (fun r => by rw [fn2_wt]; have := hw.out; omega)
  have HL : Hid ((uniq [] (occL [t, u])).length ≤ 100000000) := Lib.hid (by have h1 := uniq_len (occL [t, u]) []; have h2 := occL_wt [t, u]; have h3 := hw.out; simp only [List.length_nil] at h1; omega)
  have HSp := Lib.hid (fn2_size s t u)
  have HDp := Lib.hid (fn2_depth s t u)
  have HOp := Lib.hid (fn2_occ s t u)
  have HGp := Lib.hid (fn2_ground s t u)
  have HRp := Lib.hid (fn2_right s t u)
  have HRf := Lib.hid (fn2_rightF t u)
  have HS1 : Hid (sameT t t = true) := Lib.hid (by unfold sameT; rw [cmp_self]; rfl)
  have HS2 : Hid (sameT u u = true) := Lib.hid (by unfold sameT; rw [cmp_self]; rfl)
  obtain ⟨gt, hgt0⟩ : ∃ b, groundT t = b := ⟨_, rfl⟩
  obtain ⟨gu, hgu0⟩ : ∃ b, groundT u = b := ⟨_, rfl⟩
  obtain ⟨ra, hra0⟩ : ∃ b, rightT t = b := ⟨_, rfl⟩
  obtain ⟨rb, hrb0⟩ : ∃ b, rightT u = b := ⟨_, rfl⟩
  obtain ⟨rp, hrp0⟩ : ∃ b, rightT (fn2 s t u) = b := ⟨_, rfl⟩
  obtain ⟨Z, hZ0⟩ : ∃ Z : Int, ((sizeT (fn2 ⟨#[102]⟩ t u) : Nat) : Int) = Z := ⟨_, rfl⟩
  obtain ⟨D, hD0⟩ : ∃ D : Int, ((depthT (fn2 ⟨#[102]⟩ t u) : Nat) : Int) = D := ⟨_, rfl⟩
  rw [hgt0, hgu0] at HGp
  rw [hrp0, hra0, hrb0] at HRp
  obtain ⟨dz, hdz0⟩ : ∃ b, decide (Z ≤ 200) = b := ⟨_, rfl⟩
  obtain ⟨dd, hdd0⟩ : ∃ b, decide (D ≤ 20) = b := ⟨_, rfl⟩
  rw [hra0, hrb0, hZ0, hD0, hdz0, hdd0] at HRf
  have hdz := Lib.hid hdz0
  have hdd := Lib.hid hdd0
  have hgt := Lib.hid hgt0
  have hgu := Lib.hid hgu0
  have hra := Lib.hid hra0
  have hrb := Lib.hid hrb0
  have hrp := Lib.hid hrp0
  have hZ := Lib.hid hZ0
  have hD := Lib.hid hD0
  have h4' : ¬ (s.size : Int) > 400 := by omega
  clear hs hgt0 hgu0 hra0 hrb0 hrp0 hZ0 hD0 hdz0 hdd0
  go_enter Try.func6, Try.ntmps6
  go_wp2_with fail
  refine (live_any _).mono ?_
  rintro e w1 ⟨v, rfl, hv, hE1⟩
  obtain rfl : v = _ := hv
  have zt0 := hE1.cellOf bt0
  have zt1 := hE1.cellOf bt1
  have zt2 := hE1.cellOf bt2
  have zt3 := hE1.cellOf bt3
  have zu0 := hE1.cellOf bu0
  have zu1 := hE1.cellOf bu1
  have zu2 := hE1.cellOf bu2
  have zu3 := hE1.cellOf bu3
  go_wp2_with fail
  refine ((unhide HG) _ hE1 _).mono ?_
  rintro e w2 ⟨v, rfl, hv, he2⟩
  obtain rfl : v = _ := hv
  rw [hg.out]
  have hE2 := (hE1.al _).tr he2
  clear he2
  clear zt0 zt1 zt2 zt3 zu0 zu1 zu2 zu3
  have zt0 := hE2.cellOf bt0
  have zt1 := hE2.cellOf bt1
  have zt2 := hE2.cellOf bt2
  have zt3 := hE2.cellOf bt3
  have zu0 := hE2.cellOf bu0
  have zu1 := hE2.cellOf bu1
  have zu2 := hE2.cellOf bu2
  have zu3 := hE2.cellOf bu3
  go_wp2_with fail
  refine (fun_any s [t, u] _ hss _ (two_slice (HCt.out _ hE2) (HCu.out _ hE2) _ _ rfl)).mono ?_
  rintro e w3 ⟨v, rfl, hv3, he3⟩
  obtain ⟨A3, c3, rfl, hsl3⟩ := fn2_open s t u hv3
  have hE3 := hE2.tr (((Ext.rfl' w2).al _).tr he3)
  clear he3
  clear zt0 zt1 zt2 zt3 zu0 zu1 zu2 zu3
  go_wp2_with fail
  obtain ⟨y3, hy3⟩ : ∃ y3, w3.alloc (.cells #[.int .i64 2, .int .i64 0, .string s, .slice A3 2 c3] 24) = y3 := ⟨_, rfl⟩
  have hF3 : Ext w3 y3 := by rw [← hy3]; exact (Ext.rfl' w3).al _
  have bp0 : y3.cell? ⟨w3.heap.size, 0, none⟩ = some (.int .i64 2) := by rw [← hy3]; exact box_cells w3 #[.int .i64 2, .int .i64 0, .string s, .slice A3 2 c3] 24 0 _ rfl
  have bp1 : y3.cell? ⟨w3.heap.size, 1, none⟩ = some (.int .i64 0) := by rw [← hy3]; exact box_cells w3 #[.int .i64 2, .int .i64 0, .string s, .slice A3 2 c3] 24 1 _ rfl
  have bp2 : y3.cell? ⟨w3.heap.size, 2, none⟩ = some (.string s) := by rw [← hy3]; exact box_cells w3 #[.int .i64 2, .int .i64 0, .string s, .slice A3 2 c3] 24 2 _ rfl
  have bp3 : y3.cell? ⟨w3.heap.size, 3, none⟩ = some (.slice A3 2 c3) := by rw [← hy3]; exact box_cells w3 #[.int .i64 2, .int .i64 0, .string s, .slice A3 2 c3] 24 3 _ rfl
  have HCp : Hid (∀ w', Ext y3 w' → VT w' (fn2 s t u) (.agg #[.int .i64 2, .int .i64 0, .string s, .slice A3 2 c3])) := Lib.hid fun w' e => VT.ext hv3 (hF3.tr e)
  have hE4 := hE3.tr hF3
  have hsl4 := hsl3.ext hF3
  obtain ⟨b, o, se, hA3, e0, e1, e2, e3, hse, hve⟩ := hsl4.at_ (i := 0) (t := t) rfl
  obtain ⟨b', o', sf, hA3', f0, f1, f2, f3, hsf, hvf⟩ := hsl4.at_ (i := 1) (t := u) rfl
  subst hA3
  injection hA3' with hA3'
  injection hA3' with hb' ho' _
  subst hb' ho'
  simp only [Nat.zero_mul, Nat.one_mul, Nat.add_zero, Nat.add_assoc, Nat.reduceAdd] at e0 e1 e2 e3 f0 f1 f2 f3
  have hve := hide hve
  have hvf := hide hvf
  obtain ⟨Ae, ce, xse, rfl, -⟩ := hse
  obtain ⟨Af, cf, xsf, rfl, -⟩ := hsf
  rw [hy3]
  clear hy3 hv3 hsl3 hsl4
  have ct0 := hE4.cellOf bt0
  have ct1 := hE4.cellOf bt1
  have ct2 := hE4.cellOf bt2
  have ct3 := hE4.cellOf bt3
  have cu0 := hE4.cellOf bu0
  have cu1 := hE4.cellOf bu1
  have cu2 := hE4.cellOf bu2
  have cu3 := hE4.cellOf bu3
  refine wp_region_schedT [.q 0, .q 1, .q 2, .q 3, .q 4, .q 5, .q 6, .q 7, .q 8, .q 9, .q 10, .q 11, .q 12, .q 13, .q 14, .q 15, .l 16, .q 17, .q 18, .q 19, .q 20, .q 21, .q 22, .q 23, .q 24, .l 25, .q 26, .q 27] (by kernel_rfl) (by kernel_rfl) (Ext y3) (Ext.rfl' y3).dr ?_
  iterate 16 (refine tQ rfl rfl ?_ ?_ ?_; rotate_left; (· (intro w' hw'; have zt0 := hw'.cellOf ct0; have zt1 := hw'.cellOf ct1; have zt2 := hw'.cellOf ct2; have zt3 := hw'.cellOf ct3; have zu0 := hw'.cellOf cu0; have zu1 := hw'.cellOf cu1; have zu2 := hw'.cellOf cu2; have zu3 := hw'.cellOf cu3; have zp0 := hw'.cellOf bp0; have zp1 := hw'.cellOf bp1; have zp2 := hw'.cellOf bp2; have zp3 := hw'.cellOf bp3; have ze0 := hw'.cellOf e0; have zf0 := hw'.cellOf f0; have ze1 := hw'.cellOf e1; have zf1 := hw'.cellOf f1; have ze2 := hw'.cellOf e2; have zf2 := hw'.cellOf f2; have ze3 := hw'.cellOf e3; have zf3 := hw'.cellOf f3; go_simp; try with_reducible rfl)); try simp only [Act.put, List.setIfInBounds_toArray, List.set_cons_succ, List.set_cons_zero])
  refine tL rfl rfl ?_
  go_wp2_with fail
  refine (same_any 500 (by omega) t t _ _ _ hw.out.1 ((unhide hve).ext ((Ext.rfl' y3).dr)) (HCt.out _ (hE4.tr ((Ext.rfl' y3).dr)))).mono ?_
  rintro e w4 ⟨v, rfl, hv, he4⟩
  obtain rfl : v = _ := hv
  rw [HS1.out]
  have hX4 := ((Ext.rfl' y3).dr).tr he4
  clear he4
  go_wp2_with fail
  refine SQ.mk (hX4) ?_
  iterate 8 (refine tQ rfl rfl ?_ ?_ ?_; rotate_left; (· (intro w' hw'; have zt0 := hw'.cellOf ct0; have zt1 := hw'.cellOf ct1; have zt2 := hw'.cellOf ct2; have zt3 := hw'.cellOf ct3; have zu0 := hw'.cellOf cu0; have zu1 := hw'.cellOf cu1; have zu2 := hw'.cellOf cu2; have zu3 := hw'.cellOf cu3; have zp0 := hw'.cellOf bp0; have zp1 := hw'.cellOf bp1; have zp2 := hw'.cellOf bp2; have zp3 := hw'.cellOf bp3; have ze0 := hw'.cellOf e0; have zf0 := hw'.cellOf f0; have ze1 := hw'.cellOf e1; have zf1 := hw'.cellOf f1; have ze2 := hw'.cellOf e2; have zf2 := hw'.cellOf f2; have ze3 := hw'.cellOf e3; have zf3 := hw'.cellOf f3; go_simp; try with_reducible rfl)); try simp only [Act.put, List.setIfInBounds_toArray, List.set_cons_succ, List.set_cons_zero])
  refine tL rfl rfl ?_
  go_wp2_with fail
  refine (same_any 500 (by omega) u u _ _ _ hw.out.2.1 ((unhide hvf).ext (hX4)) (HCu.out _ (hE4.tr (hX4)))).mono ?_
  rintro e w5 ⟨v, rfl, hv, he5⟩
  obtain rfl : v = _ := hv
  rw [HS2.out]
  have hX5 := (hX4).tr he5
  clear he5
  go_wp2_with fail
  refine SQ.mk (hX5) ?_
  iterate 2 (refine tQ rfl rfl ?_ ?_ ?_; rotate_left; (· (intro w' hw'; have zt0 := hw'.cellOf ct0; have zt1 := hw'.cellOf ct1; have zt2 := hw'.cellOf ct2; have zt3 := hw'.cellOf ct3; have zu0 := hw'.cellOf cu0; have zu1 := hw'.cellOf cu1; have zu2 := hw'.cellOf cu2; have zu3 := hw'.cellOf cu3; have zp0 := hw'.cellOf bp0; have zp1 := hw'.cellOf bp1; have zp2 := hw'.cellOf bp2; have zp3 := hw'.cellOf bp3; have ze0 := hw'.cellOf e0; have zf0 := hw'.cellOf f0; have ze1 := hw'.cellOf e1; have zf1 := hw'.cellOf f1; have ze2 := hw'.cellOf e2; have zf2 := hw'.cellOf f2; have ze3 := hw'.cellOf e3; have zf3 := hw'.cellOf f3; go_simp; try with_reducible rfl)); try simp only [Act.put, List.setIfInBounds_toArray, List.set_cons_succ, List.set_cons_zero])
  refine tE ?_
  have hE5 := hE4.tr hX5
  clear hX4 e0 e1 e2 e3 f0 f1 f2 f3 hve hvf ct0 ct1 ct2 ct3 cu0 cu1 cu2 cu3
  go_wp2_with fail
  have ct0 := hE5.cellOf bt0
  have ct1 := hE5.cellOf bt1
  have ct2 := hE5.cellOf bt2
  have ct3 := hE5.cellOf bt3
  have cu0 := hE5.cellOf bu0
  have cu1 := hE5.cellOf bu1
  have cu2 := hE5.cellOf bu2
  have cu3 := hE5.cellOf bu3
  have cp0 := (hX5).cellOf bp0
  have cp1 := (hX5).cellOf bp1
  have cp2 := (hX5).cellOf bp2
  have cp3 := (hX5).cellOf bp3
  refine wp_region_schedT [.q 0, .q 2, .q 5, .l 1, .l 3, .q 4, .l 6, .q 7, .q 8, .q 9, .q 10, .q 12, .q 14, .l 11, .l 13, .l 15, .q 16, .q 17, .q 18, .q 19, .q 20, .q 21, .q 23, .l 22, .l 24, .q 25, .q 26, .l 27, .q 28, .q 29, .q 30] (by kernel_rfl) (by kernel_rfl) (Ext w5) (Ext.rfl' w5).dr ?_
  iterate 3 (refine tQ rfl rfl ?_ ?_ ?_; rotate_left; (· (intro w' hw'; have zt0 := hw'.cellOf ct0; have zt1 := hw'.cellOf ct1; have zt2 := hw'.cellOf ct2; have zt3 := hw'.cellOf ct3; have zu0 := hw'.cellOf cu0; have zu1 := hw'.cellOf cu1; have zu2 := hw'.cellOf cu2; have zu3 := hw'.cellOf cu3; have zp0 := hw'.cellOf cp0; have zp1 := hw'.cellOf cp1; have zp2 := hw'.cellOf cp2; have zp3 := hw'.cellOf cp3; go_simp; try with_reducible rfl)); try simp only [Act.put, List.setIfInBounds_toArray, List.set_cons_succ, List.set_cons_zero])
  refine tL rfl rfl ?_
  go_wp2_with fail
  refine (size_any 1000 (fn2 s t u) _ _ (hwp.out s) (by omega) (HCp.out _ (hX5.tr ((Ext.rfl' w5).dr)))).mono ?_
  rintro e w6 ⟨v, rfl, hv, he6⟩
  obtain rfl : v = _ := hv
  rw [HSp.out]
  have hX6 := ((Ext.rfl' w5).dr).tr he6
  clear he6
  go_wp2_with fail
  refine SQ.mk (hX6) ?_
  refine tL rfl rfl ?_
  go_wp2_with fail
  refine (size_any 500 t _ _ hw.out.1 (by omega) (HCt.out _ (hE5.tr (hX6)))).mono ?_
  rintro e w7 ⟨v, rfl, hv, he7⟩
  obtain rfl : v = _ := hv
  skip
  have hX7 := (hX6).tr he7
  clear he7
  go_wp2_with fail
  refine SQ.mk (hX7) ?_
  refine tQ rfl rfl (.int .i64 (1 + (sizeT t : Nat))) ?_ ?_
  · (intro w' hw'; go_simp; (try split) <;> first | rfl | omega | (rw [wrap_in _ (by omega)]))
  try simp only [Act.put, List.setIfInBounds_toArray, List.set_cons_succ, List.set_cons_zero]
  refine tL rfl rfl ?_
  go_wp2_with fail
  refine (size_any 500 u _ _ hw.out.2.1 (by omega) (HCu.out _ (hE5.tr (hX7)))).mono ?_
  rintro e w8 ⟨v, rfl, hv, he8⟩
  obtain rfl : v = _ := hv
  skip
  have hX8 := (hX7).tr he8
  clear he8
  go_wp2_with fail
  refine SQ.mk (hX8) ?_
  refine tQ rfl rfl (.int .i64 (1 + (sizeT t : Nat) + (sizeT u : Nat))) ?_ ?_
  · (intro w' hw'; go_simp; (try split) <;> first | rfl | omega | (rw [wrap_in _ (by omega)]))
  try simp only [Act.put, List.setIfInBounds_toArray, List.set_cons_succ, List.set_cons_zero]
  iterate 5 (refine tQ rfl rfl ?_ ?_ ?_; rotate_left; (· (intro w' hw'; have zt0 := hw'.cellOf ct0; have zt1 := hw'.cellOf ct1; have zt2 := hw'.cellOf ct2; have zt3 := hw'.cellOf ct3; have zu0 := hw'.cellOf cu0; have zu1 := hw'.cellOf cu1; have zu2 := hw'.cellOf cu2; have zu3 := hw'.cellOf cu3; have zp0 := hw'.cellOf cp0; have zp1 := hw'.cellOf cp1; have zp2 := hw'.cellOf cp2; have zp3 := hw'.cellOf cp3; go_simp; try with_reducible rfl)); try simp only [Act.put, List.setIfInBounds_toArray, List.set_cons_succ, List.set_cons_zero])
  refine tL rfl rfl ?_
  go_wp2_with fail
  refine (depth_any 1000 (fn2 s t u) _ _ (hwp.out s) (by omega) (HCp.out _ (hX5.tr (hX8)))).mono ?_
  rintro e w9 ⟨v, rfl, hv, he9⟩
  obtain rfl : v = _ := hv
  rw [HDp.out]
  have hX9 := (hX8).tr he9
  clear he9
  go_wp2_with fail
  refine SQ.mk (hX9) ?_
  refine tL rfl rfl ?_
  go_wp2_with fail
  refine (depth_any 500 t _ _ hw.out.1 (by omega) (HCt.out _ (hE5.tr (hX9)))).mono ?_
  rintro e w10 ⟨v, rfl, hv, he10⟩
  obtain rfl : v = _ := hv
  skip
  have hX10 := (hX9).tr he10
  clear he10
  go_wp2_with fail
  refine SQ.mk (hX10) ?_
  refine tL rfl rfl ?_
  go_wp2_with fail
  refine (depth_any 500 u _ _ hw.out.2.1 (by omega) (HCu.out _ (hE5.tr (hX10)))).mono ?_
  rintro e w11 ⟨v, rfl, hv, he11⟩
  obtain rfl : v = _ := hv
  skip
  have hX11 := (hX10).tr he11
  clear he11
  go_wp2_with fail
  refine SQ.mk (hX11) ?_
  refine tQ rfl rfl (.int .i64 (max ((depthT t : Nat) : Int) ((depthT u : Nat) : Int))) ?_ ?_
  · (intro w' hw'; go_simp; (try split) <;> first | rfl | omega | (rw [wrap_in _ (by omega)]))
  try simp only [Act.put, List.setIfInBounds_toArray, List.set_cons_succ, List.set_cons_zero]
  refine tQ rfl rfl (.int .i64 (1 + max ((depthT t : Nat) : Int) ((depthT u : Nat) : Int))) ?_ ?_
  · (intro w' hw'; go_simp; (try split) <;> first | rfl | omega | (rw [wrap_in _ (by omega)]))
  try simp only [Act.put, List.setIfInBounds_toArray, List.set_cons_succ, List.set_cons_zero]
  iterate 5 (refine tQ rfl rfl ?_ ?_ ?_; rotate_left; (· (intro w' hw'; have zt0 := hw'.cellOf ct0; have zt1 := hw'.cellOf ct1; have zt2 := hw'.cellOf ct2; have zt3 := hw'.cellOf ct3; have zu0 := hw'.cellOf cu0; have zu1 := hw'.cellOf cu1; have zu2 := hw'.cellOf cu2; have zu3 := hw'.cellOf cu3; have zp0 := hw'.cellOf cp0; have zp1 := hw'.cellOf cp1; have zp2 := hw'.cellOf cp2; have zp3 := hw'.cellOf cp3; go_simp; try with_reducible rfl)); try simp only [Act.put, List.setIfInBounds_toArray, List.set_cons_succ, List.set_cons_zero])
  refine tL rfl rfl ?_
  go_wp2_with fail
  refine (ground_any 1000 (by omega) (fn2 s t u) _ _ (hwp.out s) (HCp.out _ (hX5.tr (hX11)))).mono ?_
  rintro e w12 ⟨v, rfl, hv, he12⟩
  obtain rfl : v = _ := hv
  rw [HGp.out]
  have hX12 := (hX11).tr he12
  clear he12
  go_wp2_with fail
  refine SQ.mk (hX12) ?_
  refine tL rfl rfl ?_
  go_wp2_with fail
  refine (ground_any 500 (by omega) t _ _ hw.out.1 (HCt.out _ (hE5.tr (hX12)))).mono ?_
  rintro e w13 ⟨v, rfl, hv, he13⟩
  obtain rfl : v = _ := hv
  rw [hgt.out]
  have hX13 := (hX12).tr he13
  clear he13
  go_wp2_with fail
  refine SQ.mk (hX13) ?_
  iterate 1 (refine tQ rfl rfl ?_ ?_ ?_; rotate_left; (· (intro w' hw'; have zt0 := hw'.cellOf ct0; have zt1 := hw'.cellOf ct1; have zt2 := hw'.cellOf ct2; have zt3 := hw'.cellOf ct3; have zu0 := hw'.cellOf cu0; have zu1 := hw'.cellOf cu1; have zu2 := hw'.cellOf cu2; have zu3 := hw'.cellOf cu3; have zp0 := hw'.cellOf cp0; have zp1 := hw'.cellOf cp1; have zp2 := hw'.cellOf cp2; have zp3 := hw'.cellOf cp3; go_simp; try with_reducible rfl)); try simp only [Act.put, List.setIfInBounds_toArray, List.set_cons_succ, List.set_cons_zero])
  refine tG (gt) rfl (by cases gt <;> rfl) ?_ ?_ ?_
  rotate_left
  · (intro hb w' hw'; have zt0 := hw'.cellOf ct0; have zt1 := hw'.cellOf ct1; have zt2 := hw'.cellOf ct2; have zt3 := hw'.cellOf ct3; have zu0 := hw'.cellOf cu0; have zu1 := hw'.cellOf cu1; have zu2 := hw'.cellOf cu2; have zu3 := hw'.cellOf cu3; have zp0 := hw'.cellOf cp0; have zp1 := hw'.cellOf cp1; have zp2 := hw'.cellOf cp2; have zp3 := hw'.cellOf cp3; (try simp only [hb, if_true]); go_simp; try with_reducible rfl)
  try simp only [Act.put, List.setIfInBounds_toArray, List.set_cons_succ, List.set_cons_zero]
  refine tGL (gt) rfl (by cases gt <;> rfl) (.bool gu) (hX13) ?_ ?_
  · intro hb
    (cases gt) <;> try (exact absurd hb (by decide))
    intro K hK
    simp only [Bool.and_true, Bool.true_and, Bool.and_self, Bool.not_true, Bool.not_false, if_true, Act.put, List.setIfInBounds_toArray, List.set_cons_succ, List.set_cons_zero] at hK ⊢
    go_wp2_with fail
    refine (ground_any 500 (by omega) u _ _ hw.out.2.1 (HCu.out _ (hE5.tr (hX13)))).mono ?_
    rintro e w' ⟨v, rfl, hv, he⟩
    obtain rfl : v = _ := hv
    rw [hgu.out]
    go_wp2_with fail
    exact SQ.mk ((hX13).tr he) (hK _ ((hX13).tr he) he)
  intro w14 hX14 _
  try simp only [Act.put, List.setIfInBounds_toArray, List.set_cons_succ, List.set_cons_zero]
  refine tQ rfl rfl (.bool (gt && gu)) ?_ ?_
  · (intro w' hw'; have zt0 := hw'.cellOf ct0; have zt1 := hw'.cellOf ct1; have zt2 := hw'.cellOf ct2; have zt3 := hw'.cellOf ct3; have zu0 := hw'.cellOf cu0; have zu1 := hw'.cellOf cu1; have zu2 := hw'.cellOf cu2; have zu3 := hw'.cellOf cu3; have zp0 := hw'.cellOf cp0; have zp1 := hw'.cellOf cp1; have zp2 := hw'.cellOf cp2; have zp3 := hw'.cellOf cp3; (cases gt) <;> first | rfl | (go_simp; done) | (fail))
  try simp only [Act.put, List.setIfInBounds_toArray, List.set_cons_succ, List.set_cons_zero]
  iterate 2 (refine tQ rfl rfl ?_ ?_ ?_; rotate_left; (· (intro w' hw'; have zt0 := hw'.cellOf ct0; have zt1 := hw'.cellOf ct1; have zt2 := hw'.cellOf ct2; have zt3 := hw'.cellOf ct3; have zu0 := hw'.cellOf cu0; have zu1 := hw'.cellOf cu1; have zu2 := hw'.cellOf cu2; have zu3 := hw'.cellOf cu3; have zp0 := hw'.cellOf cp0; have zp1 := hw'.cellOf cp1; have zp2 := hw'.cellOf cp2; have zp3 := hw'.cellOf cp3; go_simp; try with_reducible rfl)); try simp only [Act.put, List.setIfInBounds_toArray, List.set_cons_succ, List.set_cons_zero])
  refine tE ?_
  obtain ⟨qq, hqq⟩ : ∃ q : Value, (if gt = true then Value.agg #[.int .i64 u.k, .int .i64 u.i, .string u.s, .slice Au u.ar.length cu] else undef) = q := ⟨_, rfl⟩
  try rw [hqq]
  clear hqq
  obtain ⟨qq, hqq⟩ : ∃ q : Value, (if gt = true then Value.bool gu else undef) = q := ⟨_, rfl⟩
  try rw [hqq]
  clear hqq
  have hF14 := hX5.tr hX14
  have hE14 := hE5.tr hX14
  clear hX5 hX6 hX7 hX8 hX9 hX10 hX11 hX12 hX13 hX14
  clear ct0 ct1 ct2 ct3 cu0 cu1 cu2 cu3 cp0 cp1 cp2 cp3
  go_wp2_with fail
  have ct0 := hE14.cellOf bt0
  have ct1 := hE14.cellOf bt1
  have ct2 := hE14.cellOf bt2
  have ct3 := hE14.cellOf bt3
  have cu0 := hE14.cellOf bu0
  have cu1 := hE14.cellOf bu1
  have cu2 := hE14.cellOf bu2
  have cu3 := hE14.cellOf bu3
  have cp0 := (hF14).cellOf bp0
  have cp1 := (hF14).cellOf bp1
  have cp2 := (hF14).cellOf bp2
  have cp3 := (hF14).cellOf bp3
  refine wp_region_schedT [.q 0, .q 2, .q 3, .p 1 4, .l 5, .l 6, .q 7, .q 8, .q 9, .l 10, .q 11, .q 12, .l 13, .q 14, .q 15, .q 16, .l 17, .q 18, .q 19, .q 20, .q 21] (by kernel_rfl) (by kernel_rfl) (Ext w14) (Ext.rfl' w14).dr ?_
  iterate 3 (refine tQ rfl rfl ?_ ?_ ?_; rotate_left; (· (intro w' hw'; have zt0 := hw'.cellOf ct0; have zt1 := hw'.cellOf ct1; have zt2 := hw'.cellOf ct2; have zt3 := hw'.cellOf ct3; have zu0 := hw'.cellOf cu0; have zu1 := hw'.cellOf cu1; have zu2 := hw'.cellOf cu2; have zu3 := hw'.cellOf cu3; have zp0 := hw'.cellOf cp0; have zp1 := hw'.cellOf cp1; have zp2 := hw'.cellOf cp2; have zp3 := hw'.cellOf cp3; go_simp; try with_reducible rfl)); try simp only [Act.put, List.setIfInBounds_toArray, List.set_cons_succ, List.set_cons_zero])
  refine tP rfl rfl (RdI (uniq [] (occL [t, u]))) (fun v w' => SlT w' [t, u] v) (fun _ _ _ h e => h.ext e) (fun _ _ _ h e => SlT.ext h e) (fun _ _ => by simp only [Act.put, List.setIfInBounds_toArray, List.set_cons_succ, List.set_cons_zero]) (Ext.rfl' w14).dr ?_ ?_ ?_
  · rintro a' (rfl | ⟨q, rfl⟩)
    all_goals
      refine ⟨rfl, fun K w1 hC1 he1 hK => ?_⟩
      (try simp only [Act.put, List.setIfInBounds_toArray, List.set_cons_succ, List.set_cons_zero] at hK ⊢)
      go_wp2_with fail
      refine (varsP_any 1000 (by omega) (fn2 s t u) _ _ (hwp.out s) (HCp.out _ (hF14.tr hC1))).mono ?_
      rintro e w2 ⟨v, rfl, hv, he⟩
      rw [HOp.out] at hv
      have hv' := hide hv
      obtain ⟨A, c, rfl, -⟩ := hv
      go_wp2_with fail
      exact SQ.mk (hC1.tr he) (hK _ _ (hC1.tr he) he (unhide hv'))
  · rintro a' (rfl | ⟨q, rfl⟩)
    all_goals
      refine ⟨rfl, fun K w1 hC1 he1 hK => ?_⟩
      (try simp only [Act.put, List.setIfInBounds_toArray, List.set_cons_succ, List.set_cons_zero] at hK ⊢)
      go_wp2_with fail
      exact SQ.mk (hC1.al _) (hK _ _ (hC1.al _) ((Ext.rfl' _).al _) (two_slice (HCt.out _ (hE14.tr hC1)) (HCu.out _ (hE14.tr hC1)) _ _ rfl))
  intro v q w15 hX15 _ hrv hsl
  have hr5 := hide hrv
  obtain ⟨A5, c5, rfl, -⟩ := hrv
  have hs5 := hide hsl
  obtain ⟨A6, c6, xs6, rfl, -⟩ := hsl
  try simp only [Act.put, List.setIfInBounds_toArray, List.set_cons_succ, List.set_cons_zero]
  refine tL rfl rfl ?_
  go_wp2_with fail
  refine (varsOf_any 500 (by omega) [t, u] _ _ hw.out.2.2 (unhide hs5)).mono ?_
  rintro e w16 ⟨v, rfl, hv, he16⟩
  have hr6 := hide hv
  obtain ⟨A7, c7, rfl, -⟩ := hv
  have hr5 := hide ((unhide hr5).ext he16)
  skip
  have hX16 := (hX15).tr he16
  clear he16
  go_wp2_with fail
  refine SQ.mk (hX16) ?_
  refine tL rfl rfl ?_
  go_wp2_with fail
  refine (sameInts_any _ _ _ _ _ HL.out HL.out (unhide hr5) (unhide hr6)).mono ?_
  rintro e w17 ⟨v, rfl, hv, he17⟩
  obtain rfl : v = _ := hv
  rw [decide_eq_true rfl]
  skip
  have hX17 := (hX16).tr he17
  clear he17
  go_wp2_with fail
  refine SQ.mk (hX17) ?_
  iterate 3 (refine tQ rfl rfl ?_ ?_ ?_; rotate_left; (· (intro w' hw'; have zt0 := hw'.cellOf ct0; have zt1 := hw'.cellOf ct1; have zt2 := hw'.cellOf ct2; have zt3 := hw'.cellOf ct3; have zu0 := hw'.cellOf cu0; have zu1 := hw'.cellOf cu1; have zu2 := hw'.cellOf cu2; have zu3 := hw'.cellOf cu3; have zp0 := hw'.cellOf cp0; have zp1 := hw'.cellOf cp1; have zp2 := hw'.cellOf cp2; have zp3 := hw'.cellOf cp3; go_simp; try with_reducible rfl)); try simp only [Act.put, List.setIfInBounds_toArray, List.set_cons_succ, List.set_cons_zero])
  refine tL rfl rfl ?_
  go_wp2_with fail
  refine (right_any 1000 (by omega) (fn2 s t u) _ _ (hwp.out s) (HCp.out _ (hF14.tr (hX17)))).mono ?_
  rintro e w18 ⟨v, rfl, hv, he18⟩
  obtain rfl : v = _ := hv
  rw [hrp.out]
  have hX18 := (hX17).tr he18
  clear he18
  go_wp2_with fail
  refine SQ.mk (hX18) ?_
  iterate 1 (refine tQ rfl rfl ?_ ?_ ?_; rotate_left; (· (intro w' hw'; have zt0 := hw'.cellOf ct0; have zt1 := hw'.cellOf ct1; have zt2 := hw'.cellOf ct2; have zt3 := hw'.cellOf ct3; have zu0 := hw'.cellOf cu0; have zu1 := hw'.cellOf cu1; have zu2 := hw'.cellOf cu2; have zu3 := hw'.cellOf cu3; have zp0 := hw'.cellOf cp0; have zp1 := hw'.cellOf cp1; have zp2 := hw'.cellOf cp2; have zp3 := hw'.cellOf cp3; go_simp; try with_reducible rfl)); try simp only [Act.put, List.setIfInBounds_toArray, List.set_cons_succ, List.set_cons_zero])
  refine tG (rp) rfl (by cases rp <;> rfl) ?_ ?_ ?_
  rotate_left
  · (intro hb w' hw'; have zt0 := hw'.cellOf ct0; have zt1 := hw'.cellOf ct1; have zt2 := hw'.cellOf ct2; have zt3 := hw'.cellOf ct3; have zu0 := hw'.cellOf cu0; have zu1 := hw'.cellOf cu1; have zu2 := hw'.cellOf cu2; have zu3 := hw'.cellOf cu3; have zp0 := hw'.cellOf cp0; have zp1 := hw'.cellOf cp1; have zp2 := hw'.cellOf cp2; have zp3 := hw'.cellOf cp3; (try simp only [hb, if_true]); go_simp; try with_reducible rfl)
  try simp only [Act.put, List.setIfInBounds_toArray, List.set_cons_succ, List.set_cons_zero]
  refine tGL (rp) rfl (by cases rp <;> rfl) (.bool ra) (hX18) ?_ ?_
  · intro hb
    (cases rp) <;> try (exact absurd hb (by decide))
    intro K hK
    simp only [Bool.and_true, Bool.true_and, Bool.and_self, Bool.not_true, Bool.not_false, if_true, Act.put, List.setIfInBounds_toArray, List.set_cons_succ, List.set_cons_zero] at hK ⊢
    go_wp2_with fail
    refine (right_any 500 (by omega) t _ _ hw.out.1 (HCt.out _ (hE14.tr (hX18)))).mono ?_
    rintro e w' ⟨v, rfl, hv, he⟩
    obtain rfl : v = _ := hv
    rw [hra.out]
    go_wp2_with fail
    exact SQ.mk ((hX18).tr he) (hK _ ((hX18).tr he) he)
  intro w19 hX19 _
  try simp only [Act.put, List.setIfInBounds_toArray, List.set_cons_succ, List.set_cons_zero]
  refine tG (rp) rfl (by cases rp <;> cases ra <;> rfl) (.bool (!ra)) ?_ ?_
  · (intro hb w' hw'; have zt0 := hw'.cellOf ct0; have zt1 := hw'.cellOf ct1; have zt2 := hw'.cellOf ct2; have zt3 := hw'.cellOf ct3; have zu0 := hw'.cellOf cu0; have zu1 := hw'.cellOf cu1; have zu2 := hw'.cellOf cu2; have zu3 := hw'.cellOf cu3; have zp0 := hw'.cellOf cp0; have zp1 := hw'.cellOf cp1; have zp2 := hw'.cellOf cp2; have zp3 := hw'.cellOf cp3; (cases rp <;> cases ra) <;> first | rfl | (exfalso; revert hb; decide) | (go_simp; done) | (simp at hb; done) | (fail))
  try simp only [Act.put, List.setIfInBounds_toArray, List.set_cons_succ, List.set_cons_zero]
  refine tG (rp) rfl (by cases rp <;> cases ra <;> rfl) (.bool (!ra)) ?_ ?_
  · (intro hb w' hw'; have zt0 := hw'.cellOf ct0; have zt1 := hw'.cellOf ct1; have zt2 := hw'.cellOf ct2; have zt3 := hw'.cellOf ct3; have zu0 := hw'.cellOf cu0; have zu1 := hw'.cellOf cu1; have zu2 := hw'.cellOf cu2; have zu3 := hw'.cellOf cu3; have zp0 := hw'.cellOf cp0; have zp1 := hw'.cellOf cp1; have zp2 := hw'.cellOf cp2; have zp3 := hw'.cellOf cp3; (cases rp <;> cases ra) <;> first | rfl | (exfalso; revert hb; decide) | (go_simp; done) | (simp at hb; done) | (fail))
  try simp only [Act.put, List.setIfInBounds_toArray, List.set_cons_succ, List.set_cons_zero]
  refine tG (rp && ra) rfl (by cases rp <;> cases ra <;> rfl) ?_ ?_ ?_
  rotate_left
  · (intro hb w' hw'; have zt0 := hw'.cellOf ct0; have zt1 := hw'.cellOf ct1; have zt2 := hw'.cellOf ct2; have zt3 := hw'.cellOf ct3; have zu0 := hw'.cellOf cu0; have zu1 := hw'.cellOf cu1; have zu2 := hw'.cellOf cu2; have zu3 := hw'.cellOf cu3; have zp0 := hw'.cellOf cp0; have zp1 := hw'.cellOf cp1; have zp2 := hw'.cellOf cp2; have zp3 := hw'.cellOf cp3; (try simp only [hb, if_true]); go_simp; try with_reducible rfl)
  try simp only [Act.put, List.setIfInBounds_toArray, List.set_cons_succ, List.set_cons_zero]
  refine tGL (rp && ra) rfl (by cases rp <;> cases ra <;> rfl) (.bool rb) (hX19) ?_ ?_
  · intro hb
    (cases rp <;> cases ra) <;> try (exact absurd hb (by decide))
    intro K hK
    simp only [Bool.and_true, Bool.true_and, Bool.and_self, Bool.not_true, Bool.not_false, if_true, Act.put, List.setIfInBounds_toArray, List.set_cons_succ, List.set_cons_zero] at hK ⊢
    go_wp2_with fail
    refine (right_any 500 (by omega) u _ _ hw.out.2.1 (HCu.out _ (hE14.tr (hX19)))).mono ?_
    rintro e w' ⟨v, rfl, hv, he⟩
    obtain rfl : v = _ := hv
    rw [hrb.out]
    go_wp2_with fail
    exact SQ.mk ((hX19).tr he) (hK _ ((hX19).tr he) he)
  intro w20 hX20 _
  try simp only [Act.put, List.setIfInBounds_toArray, List.set_cons_succ, List.set_cons_zero]
  refine tG (rp && ra) rfl (by cases rp <;> cases ra <;> cases rb <;> rfl) (.bool (!rb)) ?_ ?_
  · (intro hb w' hw'; have zt0 := hw'.cellOf ct0; have zt1 := hw'.cellOf ct1; have zt2 := hw'.cellOf ct2; have zt3 := hw'.cellOf ct3; have zu0 := hw'.cellOf cu0; have zu1 := hw'.cellOf cu1; have zu2 := hw'.cellOf cu2; have zu3 := hw'.cellOf cu3; have zp0 := hw'.cellOf cp0; have zp1 := hw'.cellOf cp1; have zp2 := hw'.cellOf cp2; have zp3 := hw'.cellOf cp3; (cases rp <;> cases ra <;> cases rb) <;> first | rfl | (exfalso; revert hb; decide) | (go_simp; done) | (simp at hb; done) | (fail))
  try simp only [Act.put, List.setIfInBounds_toArray, List.set_cons_succ, List.set_cons_zero]
  refine tG (rp) rfl (by cases rp <;> cases ra <;> cases rb <;> rfl) (.bool (!ra || !rb)) ?_ ?_
  · (intro hb w' hw'; have zt0 := hw'.cellOf ct0; have zt1 := hw'.cellOf ct1; have zt2 := hw'.cellOf ct2; have zt3 := hw'.cellOf ct3; have zu0 := hw'.cellOf cu0; have zu1 := hw'.cellOf cu1; have zu2 := hw'.cellOf cu2; have zu3 := hw'.cellOf cu3; have zp0 := hw'.cellOf cp0; have zp1 := hw'.cellOf cp1; have zp2 := hw'.cellOf cp2; have zp3 := hw'.cellOf cp3; (cases rp <;> cases ra <;> cases rb) <;> first | rfl | (exfalso; revert hb; decide) | (go_simp; done) | (simp at hb; done) | (fail))
  try simp only [Act.put, List.setIfInBounds_toArray, List.set_cons_succ, List.set_cons_zero]
  refine tQ rfl rfl (.bool false) ?_ ?_
  · (intro w' hw'; have zt0 := hw'.cellOf ct0; have zt1 := hw'.cellOf ct1; have zt2 := hw'.cellOf ct2; have zt3 := hw'.cellOf ct3; have zu0 := hw'.cellOf cu0; have zu1 := hw'.cellOf cu1; have zu2 := hw'.cellOf cu2; have zu3 := hw'.cellOf cu3; have zp0 := hw'.cellOf cp0; have zp1 := hw'.cellOf cp1; have zp2 := hw'.cellOf cp2; have zp3 := hw'.cellOf cp3; (cases rp <;> cases ra <;> cases rb) <;> first | rfl | (go_simp; done) | (exact absurd HRp.out (by decide)))
  try simp only [Act.put, List.setIfInBounds_toArray, List.set_cons_succ, List.set_cons_zero]
  iterate 1 (refine tQ rfl rfl ?_ ?_ ?_; rotate_left; (· (intro w' hw'; have zt0 := hw'.cellOf ct0; have zt1 := hw'.cellOf ct1; have zt2 := hw'.cellOf ct2; have zt3 := hw'.cellOf ct3; have zu0 := hw'.cellOf cu0; have zu1 := hw'.cellOf cu1; have zu2 := hw'.cellOf cu2; have zu3 := hw'.cellOf cu3; have zp0 := hw'.cellOf cp0; have zp1 := hw'.cellOf cp1; have zp2 := hw'.cellOf cp2; have zp3 := hw'.cellOf cp3; go_simp; try with_reducible rfl)); try simp only [Act.put, List.setIfInBounds_toArray, List.set_cons_succ, List.set_cons_zero])
  refine tE ?_
  obtain ⟨qq, hqq⟩ : ∃ q : Value, (if rp = true then Value.agg #[.int .i64 t.k, .int .i64 t.i, .string t.s, .slice At t.ar.length ct] else undef) = q := ⟨_, rfl⟩
  try rw [hqq]
  clear hqq
  obtain ⟨qq, hqq⟩ : ∃ q : Value, (if rp = true then Value.bool ra else undef) = q := ⟨_, rfl⟩
  try rw [hqq]
  clear hqq
  obtain ⟨qq, hqq⟩ : ∃ q : Value, (if rp = true then Value.bool !ra else undef) = q := ⟨_, rfl⟩
  try rw [hqq]
  clear hqq
  obtain ⟨qq, hqq⟩ : ∃ q : Value, (if (rp && ra) = true then Value.agg #[.int .i64 u.k, .int .i64 u.i, .string u.s, .slice Au u.ar.length cu] else undef) = q := ⟨_, rfl⟩
  try rw [hqq]
  clear hqq
  obtain ⟨qq, hqq⟩ : ∃ q : Value, (if (rp && ra) = true then Value.bool rb else undef) = q := ⟨_, rfl⟩
  try rw [hqq]
  clear hqq
  obtain ⟨qq, hqq⟩ : ∃ q : Value, (if (rp && ra) = true then Value.bool !rb else undef) = q := ⟨_, rfl⟩
  try rw [hqq]
  clear hqq
  obtain ⟨qq, hqq⟩ : ∃ q : Value, (if rp = true then Value.bool (!ra || !rb) else undef) = q := ⟨_, rfl⟩
  try rw [hqq]
  clear hqq
  have hE20 := hE14.tr hX20
  clear hX15 hX16 hX17 hX18 hX19 hX20 hr5 hr6 hs5 hF14 HRp HOp HSp HDp HGp
  clear ct0 ct1 ct2 ct3 cu0 cu1 cu2 cu3 cp0 cp1 cp2 cp3
  have zt0 := hE20.cellOf bt0
  have zt1 := hE20.cellOf bt1
  have zt2 := hE20.cellOf bt2
  have zt3 := hE20.cellOf bt3
  have zu0 := hE20.cellOf bu0
  have zu1 := hE20.cellOf bu1
  have zu2 := hE20.cellOf bu2
  have zu3 := hE20.cellOf bu3
  go_wp2_with fail
  refine (fun_any ⟨#[102]⟩ [t, u] _ (Lib.hid (by decide)) _ (two_slice (HCt.out _ hE20) (HCu.out _ hE20) _ _ rfl)).mono ?_
  rintro e wf ⟨v, rfl, hv4, he4⟩
  obtain ⟨A4, c4, rfl, -⟩ := fn2_open ⟨#[102]⟩ t u hv4
  have hEf := hE20.tr (((Ext.rfl' w20).al _).tr he4)
  clear he4
  clear zt0 zt1 zt2 zt3 zu0 zu1 zu2 zu3
  go_wp2_with fail
  obtain ⟨y4, hy4⟩ : ∃ y4, wf.alloc (.cells #[.int .i64 2, .int .i64 0, .string ⟨#[102]⟩, .slice A4 2 c4] 24) = y4 := ⟨_, rfl⟩
  have hF4 : Ext wf y4 := by rw [← hy4]; exact (Ext.rfl' wf).al _
  have cf0 : y4.cell? ⟨wf.heap.size, 0, none⟩ = some (.int .i64 2) := by rw [← hy4]; exact box_cells wf #[.int .i64 2, .int .i64 0, .string ⟨#[102]⟩, .slice A4 2 c4] 24 0 _ rfl
  have cf1 : y4.cell? ⟨wf.heap.size, 1, none⟩ = some (.int .i64 0) := by rw [← hy4]; exact box_cells wf #[.int .i64 2, .int .i64 0, .string ⟨#[102]⟩, .slice A4 2 c4] 24 1 _ rfl
  have cf2 : y4.cell? ⟨wf.heap.size, 2, none⟩ = some (.string ⟨#[102]⟩) := by rw [← hy4]; exact box_cells wf #[.int .i64 2, .int .i64 0, .string ⟨#[102]⟩, .slice A4 2 c4] 24 2 _ rfl
  have cf3 : y4.cell? ⟨wf.heap.size, 3, none⟩ = some (.slice A4 2 c4) := by rw [← hy4]; exact box_cells wf #[.int .i64 2, .int .i64 0, .string ⟨#[102]⟩, .slice A4 2 c4] 24 3 _ rfl
  have HCf : Hid (∀ w', Ext y4 w' → VT w' (fn2 ⟨#[102]⟩ t u) (.agg #[.int .i64 2, .int .i64 0, .string ⟨#[102]⟩, .slice A4 2 c4])) := Lib.hid fun w' e => VT.ext hv4 (hF4.tr e)
  have hE4 := hEf.tr hF4
  rw [hy4]
  clear hy4 hv4
  have ct0 := hE4.cellOf bt0
  have ct1 := hE4.cellOf bt1
  have ct2 := hE4.cellOf bt2
  have ct3 := hE4.cellOf bt3
  have cu0 := hE4.cellOf bu0
  have cu1 := hE4.cellOf bu1
  have cu2 := hE4.cellOf bu2
  have cu3 := hE4.cellOf bu3
  refine wp_region_schedT [.q 0, .q 2, .l 1, .l 3, .q 4, .q 5, .l 6, .q 7, .q 8, .q 9, .l 10, .q 11, .q 12, .q 13, .q 14, .l 15, .q 16, .q 17, .q 18, .q 19] (by kernel_rfl) (by kernel_rfl) (Ext y4) (Ext.rfl' y4).dr ?_
  iterate 2 (refine tQ rfl rfl ?_ ?_ ?_; rotate_left; (· (intro w' hw'; have zt0 := hw'.cellOf ct0; have zt1 := hw'.cellOf ct1; have zt2 := hw'.cellOf ct2; have zt3 := hw'.cellOf ct3; have zu0 := hw'.cellOf cu0; have zu1 := hw'.cellOf cu1; have zu2 := hw'.cellOf cu2; have zu3 := hw'.cellOf cu3; have zf0 := hw'.cellOf cf0; have zf1 := hw'.cellOf cf1; have zf2 := hw'.cellOf cf2; have zf3 := hw'.cellOf cf3; go_simp; try with_reducible rfl)); try simp only [Act.put, List.setIfInBounds_toArray, List.set_cons_succ, List.set_cons_zero])
  refine tL rfl rfl ?_
  go_wp2_with fail
  refine (right_any 1000 (by omega) (fn2 ⟨#[102]⟩ t u) _ _ (hwp.out _) (HCf.out _ ((Ext.rfl' y4).dr))).mono ?_
  rintro e w50 ⟨v, rfl, hv, he50⟩
  obtain rfl : v = _ := hv
  rw [HRf.out]
  have hX50 := ((Ext.rfl' y4).dr).tr he50
  clear he50
  go_wp2_with fail
  refine SQ.mk (hX50) ?_
  refine tL rfl rfl ?_
  go_wp2_with fail
  refine (right_any 500 (by omega) t _ _ hw.out.1 (HCt.out _ (hE4.tr (hX50)))).mono ?_
  rintro e w51 ⟨v, rfl, hv, he51⟩
  obtain rfl : v = _ := hv
  rw [hra.out]
  have hX51 := (hX50).tr he51
  clear he51
  go_wp2_with fail
  refine SQ.mk (hX51) ?_
  iterate 1 (refine tQ rfl rfl ?_ ?_ ?_; rotate_left; (· (intro w' hw'; have zt0 := hw'.cellOf ct0; have zt1 := hw'.cellOf ct1; have zt2 := hw'.cellOf ct2; have zt3 := hw'.cellOf ct3; have zu0 := hw'.cellOf cu0; have zu1 := hw'.cellOf cu1; have zu2 := hw'.cellOf cu2; have zu3 := hw'.cellOf cu3; have zf0 := hw'.cellOf cf0; have zf1 := hw'.cellOf cf1; have zf2 := hw'.cellOf cf2; have zf3 := hw'.cellOf cf3; go_simp; try with_reducible rfl)); try simp only [Act.put, List.setIfInBounds_toArray, List.set_cons_succ, List.set_cons_zero])
  refine tG (ra) rfl (by cases ra <;> rfl) ?_ ?_ ?_
  rotate_left
  · (intro hb w' hw'; have zt0 := hw'.cellOf ct0; have zt1 := hw'.cellOf ct1; have zt2 := hw'.cellOf ct2; have zt3 := hw'.cellOf ct3; have zu0 := hw'.cellOf cu0; have zu1 := hw'.cellOf cu1; have zu2 := hw'.cellOf cu2; have zu3 := hw'.cellOf cu3; have zf0 := hw'.cellOf cf0; have zf1 := hw'.cellOf cf1; have zf2 := hw'.cellOf cf2; have zf3 := hw'.cellOf cf3; (try simp only [hb, if_true]); go_simp; try with_reducible rfl)
  try simp only [Act.put, List.setIfInBounds_toArray, List.set_cons_succ, List.set_cons_zero]
  refine tGL (ra) rfl (by cases ra <;> rfl) (.bool rb) (hX51) ?_ ?_
  · intro hb
    (cases ra) <;> try (exact absurd hb (by decide))
    intro K hK
    simp only [Bool.and_true, Bool.true_and, Bool.and_self, Bool.not_true, Bool.not_false, if_true, Act.put, List.setIfInBounds_toArray, List.set_cons_succ, List.set_cons_zero] at hK ⊢
    go_wp2_with fail
    refine (right_any 500 (by omega) u _ _ hw.out.2.1 (HCu.out _ (hE4.tr (hX51)))).mono ?_
    rintro e w' ⟨v, rfl, hv, he⟩
    obtain rfl : v = _ := hv
    rw [hrb.out]
    go_wp2_with fail
    exact SQ.mk ((hX51).tr he) (hK _ ((hX51).tr he) he)
  intro w52 hX52 _
  try simp only [Act.put, List.setIfInBounds_toArray, List.set_cons_succ, List.set_cons_zero]
  refine tQ rfl rfl (.bool (ra && rb)) ?_ ?_
  · (intro w' hw'; have zt0 := hw'.cellOf ct0; have zt1 := hw'.cellOf ct1; have zt2 := hw'.cellOf ct2; have zt3 := hw'.cellOf ct3; have zu0 := hw'.cellOf cu0; have zu1 := hw'.cellOf cu1; have zu2 := hw'.cellOf cu2; have zu3 := hw'.cellOf cu3; have zf0 := hw'.cellOf cf0; have zf1 := hw'.cellOf cf1; have zf2 := hw'.cellOf cf2; have zf3 := hw'.cellOf cf3; (cases ra) <;> first | rfl | (go_simp; done) | (fail))
  try simp only [Act.put, List.setIfInBounds_toArray, List.set_cons_succ, List.set_cons_zero]
  iterate 1 (refine tQ rfl rfl ?_ ?_ ?_; rotate_left; (· (intro w' hw'; have zt0 := hw'.cellOf ct0; have zt1 := hw'.cellOf ct1; have zt2 := hw'.cellOf ct2; have zt3 := hw'.cellOf ct3; have zu0 := hw'.cellOf cu0; have zu1 := hw'.cellOf cu1; have zu2 := hw'.cellOf cu2; have zu3 := hw'.cellOf cu3; have zf0 := hw'.cellOf cf0; have zf1 := hw'.cellOf cf1; have zf2 := hw'.cellOf cf2; have zf3 := hw'.cellOf cf3; go_simp; try with_reducible rfl)); try simp only [Act.put, List.setIfInBounds_toArray, List.set_cons_succ, List.set_cons_zero])
  refine tG (ra && rb) rfl (by cases ra <;> cases rb <;> rfl) ?_ ?_ ?_
  rotate_left
  · (intro hb w' hw'; have zt0 := hw'.cellOf ct0; have zt1 := hw'.cellOf ct1; have zt2 := hw'.cellOf ct2; have zt3 := hw'.cellOf ct3; have zu0 := hw'.cellOf cu0; have zu1 := hw'.cellOf cu1; have zu2 := hw'.cellOf cu2; have zu3 := hw'.cellOf cu3; have zf0 := hw'.cellOf cf0; have zf1 := hw'.cellOf cf1; have zf2 := hw'.cellOf cf2; have zf3 := hw'.cellOf cf3; (try simp only [hb, if_true]); go_simp; try with_reducible rfl)
  try simp only [Act.put, List.setIfInBounds_toArray, List.set_cons_succ, List.set_cons_zero]
  refine tGL (ra && rb) rfl (by cases ra <;> cases rb <;> rfl) (.int .i64 Z) (hX52) ?_ ?_
  · intro hb
    (cases ra <;> cases rb) <;> try (exact absurd hb (by decide))
    intro K hK
    simp only [Bool.and_true, Bool.true_and, Bool.and_self, Bool.not_true, Bool.not_false, if_true, Act.put, List.setIfInBounds_toArray, List.set_cons_succ, List.set_cons_zero] at hK ⊢
    go_wp2_with fail
    refine (size_any 1000 (fn2 ⟨#[102]⟩ t u) _ _ (hwp.out _) (by omega) (HCf.out _ (hX52))).mono ?_
    rintro e w' ⟨v, rfl, hv, he⟩
    obtain rfl : v = _ := hv
    rw [hZ.out]
    go_wp2_with fail
    exact SQ.mk ((hX52).tr he) (hK _ ((hX52).tr he) he)
  intro w53 hX53 _
  try simp only [Act.put, List.setIfInBounds_toArray, List.set_cons_succ, List.set_cons_zero]
  refine tG (ra && rb) rfl (by cases ra <;> cases rb <;> rfl) (.bool dz) ?_ ?_
  · (intro hb w' hw'; have zt0 := hw'.cellOf ct0; have zt1 := hw'.cellOf ct1; have zt2 := hw'.cellOf ct2; have zt3 := hw'.cellOf ct3; have zu0 := hw'.cellOf cu0; have zu1 := hw'.cellOf cu1; have zu2 := hw'.cellOf cu2; have zu3 := hw'.cellOf cu3; have zf0 := hw'.cellOf cf0; have zf1 := hw'.cellOf cf1; have zf2 := hw'.cellOf cf2; have zf3 := hw'.cellOf cf3; (cases ra <;> cases rb) <;> first | rfl | (exfalso; revert hb; decide) | (go_simp; done) | (simp at hb; done) | ((go_simp; exact hdz.out)))
  try simp only [Act.put, List.setIfInBounds_toArray, List.set_cons_succ, List.set_cons_zero]
  refine tQ rfl rfl (.bool (ra && rb && dz)) ?_ ?_
  · (intro w' hw'; have zt0 := hw'.cellOf ct0; have zt1 := hw'.cellOf ct1; have zt2 := hw'.cellOf ct2; have zt3 := hw'.cellOf ct3; have zu0 := hw'.cellOf cu0; have zu1 := hw'.cellOf cu1; have zu2 := hw'.cellOf cu2; have zu3 := hw'.cellOf cu3; have zf0 := hw'.cellOf cf0; have zf1 := hw'.cellOf cf1; have zf2 := hw'.cellOf cf2; have zf3 := hw'.cellOf cf3; (cases ra <;> cases rb <;> cases dz) <;> first | rfl | (go_simp; done) | (fail))
  try simp only [Act.put, List.setIfInBounds_toArray, List.set_cons_succ, List.set_cons_zero]
  iterate 1 (refine tQ rfl rfl ?_ ?_ ?_; rotate_left; (· (intro w' hw'; have zt0 := hw'.cellOf ct0; have zt1 := hw'.cellOf ct1; have zt2 := hw'.cellOf ct2; have zt3 := hw'.cellOf ct3; have zu0 := hw'.cellOf cu0; have zu1 := hw'.cellOf cu1; have zu2 := hw'.cellOf cu2; have zu3 := hw'.cellOf cu3; have zf0 := hw'.cellOf cf0; have zf1 := hw'.cellOf cf1; have zf2 := hw'.cellOf cf2; have zf3 := hw'.cellOf cf3; go_simp; try with_reducible rfl)); try simp only [Act.put, List.setIfInBounds_toArray, List.set_cons_succ, List.set_cons_zero])
  refine tG (ra && rb && dz) rfl (by cases ra <;> cases rb <;> cases dz <;> rfl) ?_ ?_ ?_
  rotate_left
  · (intro hb w' hw'; have zt0 := hw'.cellOf ct0; have zt1 := hw'.cellOf ct1; have zt2 := hw'.cellOf ct2; have zt3 := hw'.cellOf ct3; have zu0 := hw'.cellOf cu0; have zu1 := hw'.cellOf cu1; have zu2 := hw'.cellOf cu2; have zu3 := hw'.cellOf cu3; have zf0 := hw'.cellOf cf0; have zf1 := hw'.cellOf cf1; have zf2 := hw'.cellOf cf2; have zf3 := hw'.cellOf cf3; (try simp only [hb, if_true]); go_simp; try with_reducible rfl)
  try simp only [Act.put, List.setIfInBounds_toArray, List.set_cons_succ, List.set_cons_zero]
  refine tGL (ra && rb && dz) rfl (by cases ra <;> cases rb <;> cases dz <;> rfl) (.int .i64 D) (hX53) ?_ ?_
  · intro hb
    (cases ra <;> cases rb <;> cases dz) <;> try (exact absurd hb (by decide))
    intro K hK
    simp only [Bool.and_true, Bool.true_and, Bool.and_self, Bool.not_true, Bool.not_false, if_true, Act.put, List.setIfInBounds_toArray, List.set_cons_succ, List.set_cons_zero] at hK ⊢
    go_wp2_with fail
    refine (depth_any 1000 (fn2 ⟨#[102]⟩ t u) _ _ (hwp.out _) (by omega) (HCf.out _ (hX53))).mono ?_
    rintro e w' ⟨v, rfl, hv, he⟩
    obtain rfl : v = _ := hv
    rw [hD.out]
    go_wp2_with fail
    exact SQ.mk ((hX53).tr he) (hK _ ((hX53).tr he) he)
  intro w54 hX54 _
  try simp only [Act.put, List.setIfInBounds_toArray, List.set_cons_succ, List.set_cons_zero]
  refine tG (ra && rb && dz) rfl (by cases ra <;> cases rb <;> cases dz <;> rfl) (.bool dd) ?_ ?_
  · (intro hb w' hw'; have zt0 := hw'.cellOf ct0; have zt1 := hw'.cellOf ct1; have zt2 := hw'.cellOf ct2; have zt3 := hw'.cellOf ct3; have zu0 := hw'.cellOf cu0; have zu1 := hw'.cellOf cu1; have zu2 := hw'.cellOf cu2; have zu3 := hw'.cellOf cu3; have zf0 := hw'.cellOf cf0; have zf1 := hw'.cellOf cf1; have zf2 := hw'.cellOf cf2; have zf3 := hw'.cellOf cf3; (cases ra <;> cases rb <;> cases dz) <;> first | rfl | (exfalso; revert hb; decide) | (go_simp; done) | (simp at hb; done) | ((go_simp; exact hdd.out)))
  try simp only [Act.put, List.setIfInBounds_toArray, List.set_cons_succ, List.set_cons_zero]
  refine tQ rfl rfl (.bool (ra && rb && dz && dd)) ?_ ?_
  · (intro w' hw'; have zt0 := hw'.cellOf ct0; have zt1 := hw'.cellOf ct1; have zt2 := hw'.cellOf ct2; have zt3 := hw'.cellOf ct3; have zu0 := hw'.cellOf cu0; have zu1 := hw'.cellOf cu1; have zu2 := hw'.cellOf cu2; have zu3 := hw'.cellOf cu3; have zf0 := hw'.cellOf cf0; have zf1 := hw'.cellOf cf1; have zf2 := hw'.cellOf cf2; have zf3 := hw'.cellOf cf3; (cases ra <;> cases rb <;> cases dz <;> cases dd) <;> first | rfl | (go_simp; done) | (fail))
  try simp only [Act.put, List.setIfInBounds_toArray, List.set_cons_succ, List.set_cons_zero]
  iterate 2 (refine tQ rfl rfl ?_ ?_ ?_; rotate_left; (· (intro w' hw'; have zt0 := hw'.cellOf ct0; have zt1 := hw'.cellOf ct1; have zt2 := hw'.cellOf ct2; have zt3 := hw'.cellOf ct3; have zu0 := hw'.cellOf cu0; have zu1 := hw'.cellOf cu1; have zu2 := hw'.cellOf cu2; have zu3 := hw'.cellOf cu3; have zf0 := hw'.cellOf cf0; have zf1 := hw'.cellOf cf1; have zf2 := hw'.cellOf cf2; have zf3 := hw'.cellOf cf3; go_simp; try with_reducible rfl)); try simp only [Act.put, List.setIfInBounds_toArray, List.set_cons_succ, List.set_cons_zero])
  refine tE ?_
  obtain ⟨qq, hqq⟩ : ∃ q : Value, (if ra = true then Value.agg #[.int .i64 u.k, .int .i64 u.i, .string u.s, .slice Au u.ar.length cu] else undef) = q := ⟨_, rfl⟩
  try rw [hqq]
  clear hqq
  obtain ⟨qq, hqq⟩ : ∃ q : Value, (if ra = true then Value.bool rb else undef) = q := ⟨_, rfl⟩
  try rw [hqq]
  clear hqq
  obtain ⟨qq, hqq⟩ : ∃ q : Value, (if (ra && rb) = true then Value.agg #[.int .i64 2, .int .i64 0, .string ⟨#[102]⟩, .slice A4 2 c4] else undef) = q := ⟨_, rfl⟩
  try rw [hqq]
  clear hqq
  obtain ⟨qq, hqq⟩ : ∃ q : Value, (if (ra && rb) = true then Value.int IntKind.i64 Z else undef) = q := ⟨_, rfl⟩
  try rw [hqq]
  clear hqq
  obtain ⟨qq, hqq⟩ : ∃ q : Value, (if (ra && rb) = true then Value.bool dz else undef) = q := ⟨_, rfl⟩
  try rw [hqq]
  clear hqq
  obtain ⟨qq, hqq⟩ : ∃ q : Value, (if (ra && rb && dz) = true then Value.agg #[.int .i64 2, .int .i64 0, .string ⟨#[102]⟩, .slice A4 2 c4] else undef) = q := ⟨_, rfl⟩
  try rw [hqq]
  clear hqq
  obtain ⟨qq, hqq⟩ : ∃ q : Value, (if (ra && rb && dz) = true then Value.int IntKind.i64 D else undef) = q := ⟨_, rfl⟩
  try rw [hqq]
  clear hqq
  obtain ⟨qq, hqq⟩ : ∃ q : Value, (if (ra && rb && dz) = true then Value.bool dd else undef) = q := ⟨_, rfl⟩
  try rw [hqq]
  clear hqq
  go_wp2
  go_ret
  exact Ret.mk rfl ((hE.out.tr hE4).tr hX54)

theorem holds : Holds 6 Try.f6 := by
  intro H enc W base args ds p hval hA
  rw [Try.params6] at hA hval
  obtain ⟨v0, vs0, d0, ds0, p0, q0, hargs, rfl, rfl, h0, r0⟩ := trodAll_cons hA
  obtain ⟨v1, vs1, d1, ds1, p1, q1, rfl, rfl, rfl, h1, r1⟩ := trodAll_cons r0
  obtain ⟨v2, vs2, d2, ds2, p2, q2, rfl, rfl, rfl, h2, r2⟩ := trodAll_cons r1
  obtain ⟨rfl, rfl, rfl⟩ := trodAll_nil r2
  obtain rfl : args = #[v0, v1, v2] := by cases args; simp_all
  obtain ⟨a0, rfl, g0⟩ := open_str (hval 0 9 v0 rfl rfl) h0
  obtain ⟨a1, g1⟩ := open_term (hval 1 24 v1 rfl rfl) h1
  obtain ⟨a2, g2⟩ := open_term (hval 2 24 v2 rfl rfl) h2
  exact walk a0 a1 a2 v1 v2 W g0 g1 g2

set_option maxRecDepth 100000 in
theorem lifted (os : Os) (started : os.Started) (H : Type) (enc : TypeId × Value → H) :
    ReturnsInHanded {} Try.checked os 6 .any (Rows.termBuildsSpec.pre6 enc Try.prog Try.f6 Rows.termBuildsRow.domain false) (Rows.termBuildsSpec.post enc Try.prog Try.f6 false true false false) := by
  refine returnsInHanded_of_change (C := Try.checked) own started (by kernel_rfl) Try.func6
    (ChangeSpec.witness6 (enc := enc) (C := Try.checked) false ⟨#[], #[.string ⟨#[]⟩, .agg #[.int .i64 0, .int .i64 0, .string ⟨#[]⟩, .slice none 0 0], .agg #[.int .i64 0, .int .i64 0, .string ⟨#[]⟩, .slice none 0 0]], []⟩ 8 (by kernel_rfl) (by kernel_rfl) (by kernel_rfl) (by kernel_rfl)) ?_
  intro W base args ds gs before hval hW _ _
  exact law_contract holds rfl (by kernel_rfl) rfl rfl (fun H ds h => by
    match ds, h with
    | [_, _, _], _ => rfl) W base args ds gs before hval hW

theorem over : Rows.termBuildsRow.holds Try.pinned (OpenSpec.ofChange Rows.termBuildsSpec) :=
  OpenClaim.holds_of_wide 6 Try.f6 rfl rfl rfl rfl rfl rfl rfl ⟨rfl, rfl, rfl, rfl, rfl⟩ rfl rfl rfl rfl rfl (by kernel_rfl) Try.func6 (by kernel_rfl)
    (of_decide_eq_true (by kernel_rfl)) (by unfold Func.isWrapper; first | (rw [if_pos (by decide +kernel)]; kernel_rfl) | (rw [if_neg (by decide +kernel)]; exact ⟨rfl, rfl⟩))
    (fun os started H enc _ => lifted os started H enc)

theorem proved : Rows.TermBuildsSaid :=
  over
#print axioms proved
end Go.Proofs.Ytcjbageaiafbmaa.termBuilds
