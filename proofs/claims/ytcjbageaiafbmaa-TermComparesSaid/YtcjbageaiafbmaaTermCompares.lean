/-
  Compare and Same agree with the standard order: the law TermCompares returns true for every two terms. No condition.
-/
import Derived.Test.YtcjbageaiafbmaaOpenT
import Derived.Test.YtcjbageaiafbmaaLive
import Derived.Test.YtcjbageaiafbmaaSched
namespace Go.Proofs.Ytcjbageaiafbmaa.termCompares
open Go.ChangeShapes Go.WideShapes Go.ChangeAt Go.RowKit
set_option linter.unusedVariables false

set_option maxHeartbeats 2000000 in
theorem walk (t u : T) (v x : Value) (w : World) (ht : VT w t v) (hu : VT w u x) : Calls Try.prog 4 #[v, x] w (Ret w (Is (.bool true))) := by
  obtain ⟨st, rfl, hst, -⟩ := ht.open_
  obtain ⟨At, ct, xst, rfl, -⟩ := hst
  obtain ⟨su, rfl, hsu, -⟩ := hu.open_
  obtain ⟨Au, cu, xsu, rfl, -⟩ := hsu
  obtain ⟨y, hy⟩ : ∃ y, ((w.alloc (.cells #[.int .i64 t.k, .int .i64 t.i, .string t.s, .slice At t.ar.length ct] 24)).alloc (.cells #[.int .i64 u.k, .int .i64 u.i, .string u.s, .slice Au u.ar.length cu] 24)) = y := ⟨_, rfl⟩
  have hE : Hid (Ext w y) := Lib.hid (by rw [← hy]; exact (((Ext.rfl' w).al _).al _))
  have HCt : Hid (∀ w', Ext y w' → VT w' t (.agg #[.int .i64 t.k, .int .i64 t.i, .string t.s, .slice At t.ar.length ct])) := Lib.hid fun w' e => ht.ext (hE.out.tr e)
  have HCu : Hid (∀ w', Ext y w' → VT w' u (.agg #[.int .i64 u.k, .int .i64 u.i, .string u.s, .slice Au u.ar.length cu])) := Lib.hid fun w' e => hu.ext (hE.out.tr e)
  have bt0 : y.cell? ⟨w.heap.size, 0, none⟩ = some (.int .i64 t.k) := by rw [← hy]; exact ((Ext.rfl' _).al _).cellOf (box_at w #[.int .i64 t.k, .int .i64 t.i, .string t.s, .slice At t.ar.length ct] 24 0 _ (w.heap.size) (by simp) rfl)
  have bt1 : y.cell? ⟨w.heap.size, 1, none⟩ = some (.int .i64 t.i) := by rw [← hy]; exact ((Ext.rfl' _).al _).cellOf (box_at w #[.int .i64 t.k, .int .i64 t.i, .string t.s, .slice At t.ar.length ct] 24 1 _ (w.heap.size) (by simp) rfl)
  have bt2 : y.cell? ⟨w.heap.size, 2, none⟩ = some (.string t.s) := by rw [← hy]; exact ((Ext.rfl' _).al _).cellOf (box_at w #[.int .i64 t.k, .int .i64 t.i, .string t.s, .slice At t.ar.length ct] 24 2 _ (w.heap.size) (by simp) rfl)
  have bt3 : y.cell? ⟨w.heap.size, 3, none⟩ = some (.slice At t.ar.length ct) := by rw [← hy]; exact ((Ext.rfl' _).al _).cellOf (box_at w #[.int .i64 t.k, .int .i64 t.i, .string t.s, .slice At t.ar.length ct] 24 3 _ (w.heap.size) (by simp) rfl)
  have bu0 : y.cell? ⟨w.heap.size + 1, 0, none⟩ = some (.int .i64 u.k) := by rw [← hy]; exact box_at (w.alloc (.cells #[.int .i64 t.k, .int .i64 t.i, .string t.s, .slice At t.ar.length ct] 24)) #[.int .i64 u.k, .int .i64 u.i, .string u.s, .slice Au u.ar.length cu] 24 0 _ (w.heap.size + 1) (by simp) rfl
  have bu1 : y.cell? ⟨w.heap.size + 1, 1, none⟩ = some (.int .i64 u.i) := by rw [← hy]; exact box_at (w.alloc (.cells #[.int .i64 t.k, .int .i64 t.i, .string t.s, .slice At t.ar.length ct] 24)) #[.int .i64 u.k, .int .i64 u.i, .string u.s, .slice Au u.ar.length cu] 24 1 _ (w.heap.size + 1) (by simp) rfl
  have bu2 : y.cell? ⟨w.heap.size + 1, 2, none⟩ = some (.string u.s) := by rw [← hy]; exact box_at (w.alloc (.cells #[.int .i64 t.k, .int .i64 t.i, .string t.s, .slice At t.ar.length ct] 24)) #[.int .i64 u.k, .int .i64 u.i, .string u.s, .slice Au u.ar.length cu] 24 2 _ (w.heap.size + 1) (by simp) rfl
  have bu3 : y.cell? ⟨w.heap.size + 1, 3, none⟩ = some (.slice Au u.ar.length cu) := by rw [← hy]; exact box_at (w.alloc (.cells #[.int .i64 t.k, .int .i64 t.i, .string t.s, .slice At t.ar.length ct] 24)) #[.int .i64 u.k, .int .i64 u.i, .string u.s, .slice Au u.ar.length cu] 24 3 _ (w.heap.size + 1) (by simp) rfl
  clear ht hu
  have HG := hide (fun ty => great_any [t, u] _ 600 _ (two_slice (HCt.out _ (Ext.rfl' y)) (HCu.out _ (Ext.rfl' y)) ty _ rfl) (by omega) (by omega))
  by_cases hgr : weighF 64 [t, u] 600 < 0
  · have hg : Hid (decide (weighF 64 [t, u] 600 < 0) = true) := Lib.hid (decide_eq_true hgr)
    clear hgr
    go_enter Try.func4, Try.ntmps4
    go_wp2_with fail
    refine ((unhide HG) _).mono ?_
    rintro e w1 ⟨v, rfl, hv, he1⟩
    obtain rfl : v = _ := hv
    rw [hg.out]
    have hE1 := ((Ext.rfl' y).al _).tr he1
    clear he1
    go_wp2_with fail
    go_ret
    exact Ret.mk rfl (hE.out.tr hE1)
  · have hw : Hid (wt t ≤ 600 ∧ wt u ≤ 600) := Lib.hid (by have := weigh_wt 64 [t, u] 600 (by omega); simp only [wtL] at this; omega)
    have hg : Hid (decide (weighF 64 [t, u] 600 < 0) = false) := Lib.hid (decide_eq_false hgr)
    clear hgr
    go_enter Try.func4, Try.ntmps4
    go_wp2_with fail
    refine ((unhide HG) _).mono ?_
    rintro e w1 ⟨v, rfl, hv, he1⟩
    obtain rfl : v = _ := hv
    rw [hg.out]
    have hE1 := ((Ext.rfl' y).al _).tr he1
    clear he1
    go_wp2_with fail
    have ct0 := hE1.cellOf bt0
    have ct1 := hE1.cellOf bt1
    have ct2 := hE1.cellOf bt2
    have ct3 := hE1.cellOf bt3
    have cu0 := hE1.cellOf bu0
    have cu1 := hE1.cellOf bu1
    have cu2 := hE1.cellOf bu2
    have cu3 := hE1.cellOf bu3
    refine wp_region_sched [(0, true), (1, true), (3, true), (4, true), (2, false), (5, false), (6, true), (7, true), (8, true), (9, true), (11, true), (12, true), (10, false), (13, false), (14, true), (15, true), (16, true), (17, false), (18, true), (19, true)] (by kernel_rfl) (by kernel_rfl) (Ext w1) (Ext.rfl' w1).dr ?_
    iterate 4 (refine sQ rfl rfl ?_ ?_ ?_; rotate_left; (· (intro w' hw'; have zt0 := hw'.cellOf ct0; have zt1 := hw'.cellOf ct1; have zt2 := hw'.cellOf ct2; have zt3 := hw'.cellOf ct3; have zu0 := hw'.cellOf cu0; have zu1 := hw'.cellOf cu1; have zu2 := hw'.cellOf cu2; have zu3 := hw'.cellOf cu3; go_simp; try with_reducible rfl)); try simp only [Act.put, List.setIfInBounds_toArray, List.set_cons_succ, List.set_cons_zero])
    refine sL rfl rfl ?_
    go_wp2_with fail
    refine (compare_any 600 (by omega) t u _ _ _ hw.out.1 (HCt.out _ (hE1.tr (Ext.rfl' w1).dr)) (HCu.out _ (hE1.tr (Ext.rfl' w1).dr))).mono ?_
    rintro e w2 ⟨v, rfl, hv, he2⟩
    obtain rfl : v = _ := hv
    have hX2 := (Ext.rfl' w1).dr.tr he2
    clear he2
    go_wp2_with fail
    refine SQ.mk hX2 ?_
    refine sL rfl rfl ?_
    go_wp2_with fail
    refine (refCompare_any 600 (by omega) t u _ _ _ hw.out.1 (HCt.out _ (hE1.tr hX2)) (HCu.out _ (hE1.tr hX2))).mono ?_
    rintro e w3 ⟨v, rfl, hv, he3⟩
    obtain rfl : v = _ := hv
    have hX3 := hX2.tr he3
    clear he3
    go_wp2_with fail
    refine SQ.mk hX3 ?_
    iterate 6 (refine sQ rfl rfl ?_ ?_ ?_; rotate_left; (· (intro w' hw'; have zt0 := hw'.cellOf ct0; have zt1 := hw'.cellOf ct1; have zt2 := hw'.cellOf ct2; have zt3 := hw'.cellOf ct3; have zu0 := hw'.cellOf cu0; have zu1 := hw'.cellOf cu1; have zu2 := hw'.cellOf cu2; have zu3 := hw'.cellOf cu3; go_simp; try with_reducible rfl)); try simp only [Act.put, List.setIfInBounds_toArray, List.set_cons_succ, List.set_cons_zero])
    refine sL rfl rfl ?_
    go_wp2_with fail
    refine (same_any 600 (by omega) t u _ _ _ hw.out.1 (HCt.out _ (hE1.tr hX3)) (HCu.out _ (hE1.tr hX3))).mono ?_
    rintro e w4 ⟨v, rfl, hv, he4⟩
    obtain rfl : v = _ := hv
    have hX4 := hX3.tr he4
    clear he4
    go_wp2_with fail
    refine SQ.mk hX4 ?_
    refine sL rfl rfl ?_
    go_wp2_with fail
    refine (refSame_any 600 (by omega) t u _ _ _ hw.out.1 (HCt.out _ (hE1.tr hX4)) (HCu.out _ (hE1.tr hX4))).mono ?_
    rintro e w5 ⟨v, rfl, hv, he5⟩
    obtain rfl : v = _ := hv
    have hX5 := hX4.tr he5
    clear he5
    go_wp2_with fail
    refine SQ.mk hX5 ?_
    iterate 3 (refine sQ rfl rfl ?_ ?_ ?_; rotate_left; (· (intro w' hw'; have zt0 := hw'.cellOf ct0; have zt1 := hw'.cellOf ct1; have zt2 := hw'.cellOf ct2; have zt3 := hw'.cellOf ct3; have zu0 := hw'.cellOf cu0; have zu1 := hw'.cellOf cu1; have zu2 := hw'.cellOf cu2; have zu3 := hw'.cellOf cu3; go_simp; try with_reducible rfl)); try simp only [Act.put, List.setIfInBounds_toArray, List.set_cons_succ, List.set_cons_zero])
    refine sL rfl rfl ?_
    go_wp2_with fail
    refine (live_any _).mono ?_
    rintro e w6 ⟨v, rfl, hv, he6⟩
    obtain rfl : v = _ := hv
    have hX6 := hX5.tr he6
    clear he6
    go_wp2_with fail
    refine SQ.mk hX6 ?_
    iterate 2 (refine sQ rfl rfl ?_ ?_ ?_; rotate_left; (· (intro w' hw'; have zt0 := hw'.cellOf ct0; have zt1 := hw'.cellOf ct1; have zt2 := hw'.cellOf ct2; have zt3 := hw'.cellOf ct3; have zu0 := hw'.cellOf cu0; have zu1 := hw'.cellOf cu1; have zu2 := hw'.cellOf cu2; have zu3 := hw'.cellOf cu3; go_simp; try with_reducible rfl)); try simp only [Act.put, List.setIfInBounds_toArray, List.set_cons_succ, List.set_cons_zero])
    refine sE ?_
    go_wp2
    go_ret
    exact Ret.mk rfl ((hE.out.tr hE1).tr hX6)

theorem holds : Holds 4 Try.f4 := by
  intro H enc W base args ds p hval hA
  rw [Try.params4] at hA hval
  obtain ⟨v0, vs0, d0, ds0, p0, q0, hargs, rfl, rfl, h0, r0⟩ := trodAll_cons hA
  obtain ⟨v1, vs1, d1, ds1, p1, q1, rfl, rfl, rfl, h1, r1⟩ := trodAll_cons r0
  obtain ⟨rfl, rfl, rfl⟩ := trodAll_nil r1
  obtain rfl : args = #[v0, v1] := by cases args; simp_all
  obtain ⟨a0, g0⟩ := open_term (hval 0 24 v0 rfl rfl) h0
  obtain ⟨a1, g1⟩ := open_term (hval 1 24 v1 rfl rfl) h1
  exact walk a0 a1 v0 v1 W g0 g1

set_option maxRecDepth 100000 in
theorem lifted (os : Os) (started : os.Started) (H : Type) (enc : TypeId × Value → H) :
    ReturnsInHanded {} Try.checked os 4 .any (Rows.termComparesSpec.pre6 enc Try.prog Try.f4 Rows.termComparesRow.domain false) (Rows.termComparesSpec.post enc Try.prog Try.f4 false true false false) := by
  refine returnsInHanded_of_change (C := Try.checked) own started (by kernel_rfl) Try.func4
    (ChangeSpec.witness6 (enc := enc) (C := Try.checked) false ⟨#[], #[.agg #[.int .i64 0, .int .i64 0, .string ⟨#[]⟩, .slice none 0 0], .agg #[.int .i64 0, .int .i64 0, .string ⟨#[]⟩, .slice none 0 0]], []⟩ 8 (by kernel_rfl) (by kernel_rfl) (by kernel_rfl) (by kernel_rfl)) ?_
  intro W base args ds gs before hval hW _ _
  exact law_contract holds rfl (by kernel_rfl) rfl rfl (fun H ds h => by
    match ds, h with
    | [_, _], _ => rfl) W base args ds gs before hval hW

theorem over : Rows.termComparesRow.holds Try.pinned (OpenSpec.ofChange Rows.termComparesSpec) :=
  OpenClaim.holds_of_wide 4 Try.f4 rfl rfl rfl rfl rfl rfl rfl ⟨rfl, rfl, rfl, rfl, rfl⟩ rfl rfl rfl rfl rfl (by kernel_rfl) Try.func4 (by kernel_rfl)
    (of_decide_eq_true (by kernel_rfl)) (by unfold Func.isWrapper; first | (rw [if_pos (by decide +kernel)]; kernel_rfl) | (rw [if_neg (by decide +kernel)]; exact ⟨rfl, rfl⟩))
    (fun os started H enc _ => lifted os started H enc)

theorem proved : Rows.TermComparesSaid :=
  over
#print axioms proved
end Go.Proofs.Ytcjbageaiafbmaa.termCompares
