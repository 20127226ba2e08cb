/-
  Compare is a total order, and 0 exactly for identical terms: the law TermOrder returns true for every three terms. No condition.
-/
import Derived.Test.YtcjbageaiafbmaaOpenT
import Derived.Test.YtcjbageaiafbmaaLive
import Derived.Test.YtcjbageaiafbmaaSched
namespace Go.Proofs.Ytcjbageaiafbmaa.termOrder
open Go.ChangeShapes Go.WideShapes Go.ChangeAt Go.RowKit
set_option linter.unusedVariables false

theorem three_slice {w : World} {t u p : T} {cs ds es : Array Value} (h : VT w t (.agg cs)) (k : VT w u (.agg ds)) (l : VT w p (.agg es)) (ty : TypeId) (g : Nat) (hg : w.heap.size = g) : SlT (w.alloc (.cells (cs ++ ds ++ es) ty)) [t, u, p] (.slice (some ⟨g, 0, none⟩) 3 3) :=
  ⟨some ⟨g, 0, none⟩, 3, (cs ++ ds ++ es).toList, rfl, by simp, by omega, Rd.newAt _ _ _ _ hg, by
    rw [Array.toList_append, Array.toList_append, List.append_assoc]
    exact CL.cons (h.ct.ext ((Ext.rfl' w).al _)) (CL.cons (k.ct.ext ((Ext.rfl' w).al _)) (CL.single (l.ct.ext ((Ext.rfl' w).al _))))⟩

set_option maxHeartbeats 4000000 in
theorem walk_lt (t u p : T) (HX : Hid (cmpT t u = -1)) (Y Z : Int) (HY : Hid (cmpT u p = Y)) (HZ : Hid (cmpT t p = Z)) (v x r : Value) (w : World) (ht : VT w t v) (hu : VT w u x) (hp : VT w p r) : Calls Try.prog 5 #[v, x, r] w (Ret w (Is (.bool true))) := by
  have HT : Hid (Tri (-1) Y Z) := Lib.hid (by have := cmp_tri t u p; rwa [HX.out, HY.out, HZ.out] at this)
  have HN : Hid (cmpT u t = 1) := Lib.hid (by have h := cmp_neg t u; have := HX.out; omega)
  have HS : Hid (sameT t u = false) := Lib.hid (by unfold sameT; rw [HX.out]; rfl)
  have HP : Hid (sameT p p = true) := Lib.hid (by unfold sameT; rw [cmp_self]; rfl)
  have HO : Hid (cmpT t t = 0) := Lib.hid (cmp_self t)
  obtain ⟨st, rfl, hst, -⟩ := ht.open_
  obtain ⟨At, ct, xst, rfl, -⟩ := hst
  obtain ⟨su, rfl, hsu, -⟩ := hu.open_
  obtain ⟨Au, cu, xsu, rfl, -⟩ := hsu
  obtain ⟨sp, rfl, hsp, -⟩ := hp.open_
  obtain ⟨Ap, cp, xsp, rfl, -⟩ := hsp
  obtain ⟨y, hy⟩ : ∃ y, (((w.alloc (.cells #[.int .i64 t.k, .int .i64 t.i, .string t.s, .slice At t.ar.length ct] 24)).alloc (.cells #[.int .i64 u.k, .int .i64 u.i, .string u.s, .slice Au u.ar.length cu] 24)).alloc (.cells #[.int .i64 p.k, .int .i64 p.i, .string p.s, .slice Ap p.ar.length cp] 24)) = y := ⟨_, rfl⟩
  have hE : Hid (Ext w y) := Lib.hid (by rw [← hy]; exact ((((Ext.rfl' w).al _).al _).al _))
  have HCt : Hid (∀ w', Ext y w' → VT w' t (.agg #[.int .i64 t.k, .int .i64 t.i, .string t.s, .slice At t.ar.length ct])) := Lib.hid fun w' e => ht.ext (hE.out.tr e)
  have HCu : Hid (∀ w', Ext y w' → VT w' u (.agg #[.int .i64 u.k, .int .i64 u.i, .string u.s, .slice Au u.ar.length cu])) := Lib.hid fun w' e => hu.ext (hE.out.tr e)
  have HCp : Hid (∀ w', Ext y w' → VT w' p (.agg #[.int .i64 p.k, .int .i64 p.i, .string p.s, .slice Ap p.ar.length cp])) := Lib.hid fun w' e => hp.ext (hE.out.tr e)
  have bt0 : y.cell? ⟨w.heap.size, 0, none⟩ = some (.int .i64 t.k) := by rw [← hy]; exact ((Ext.rfl' _).al _).cellOf (((Ext.rfl' _).al _).cellOf (box_at w #[.int .i64 t.k, .int .i64 t.i, .string t.s, .slice At t.ar.length ct] 24 0 _ (w.heap.size) (by simp) rfl))
  have bt1 : y.cell? ⟨w.heap.size, 1, none⟩ = some (.int .i64 t.i) := by rw [← hy]; exact ((Ext.rfl' _).al _).cellOf (((Ext.rfl' _).al _).cellOf (box_at w #[.int .i64 t.k, .int .i64 t.i, .string t.s, .slice At t.ar.length ct] 24 1 _ (w.heap.size) (by simp) rfl))
  have bt2 : y.cell? ⟨w.heap.size, 2, none⟩ = some (.string t.s) := by rw [← hy]; exact ((Ext.rfl' _).al _).cellOf (((Ext.rfl' _).al _).cellOf (box_at w #[.int .i64 t.k, .int .i64 t.i, .string t.s, .slice At t.ar.length ct] 24 2 _ (w.heap.size) (by simp) rfl))
  have bt3 : y.cell? ⟨w.heap.size, 3, none⟩ = some (.slice At t.ar.length ct) := by rw [← hy]; exact ((Ext.rfl' _).al _).cellOf (((Ext.rfl' _).al _).cellOf (box_at w #[.int .i64 t.k, .int .i64 t.i, .string t.s, .slice At t.ar.length ct] 24 3 _ (w.heap.size) (by simp) rfl))
  have bu0 : y.cell? ⟨w.heap.size + 1, 0, none⟩ = some (.int .i64 u.k) := by rw [← hy]; exact ((Ext.rfl' _).al _).cellOf (box_at (w.alloc (.cells #[.int .i64 t.k, .int .i64 t.i, .string t.s, .slice At t.ar.length ct] 24)) #[.int .i64 u.k, .int .i64 u.i, .string u.s, .slice Au u.ar.length cu] 24 0 _ (w.heap.size + 1) (by simp) rfl)
  have bu1 : y.cell? ⟨w.heap.size + 1, 1, none⟩ = some (.int .i64 u.i) := by rw [← hy]; exact ((Ext.rfl' _).al _).cellOf (box_at (w.alloc (.cells #[.int .i64 t.k, .int .i64 t.i, .string t.s, .slice At t.ar.length ct] 24)) #[.int .i64 u.k, .int .i64 u.i, .string u.s, .slice Au u.ar.length cu] 24 1 _ (w.heap.size + 1) (by simp) rfl)
  have bu2 : y.cell? ⟨w.heap.size + 1, 2, none⟩ = some (.string u.s) := by rw [← hy]; exact ((Ext.rfl' _).al _).cellOf (box_at (w.alloc (.cells #[.int .i64 t.k, .int .i64 t.i, .string t.s, .slice At t.ar.length ct] 24)) #[.int .i64 u.k, .int .i64 u.i, .string u.s, .slice Au u.ar.length cu] 24 2 _ (w.heap.size + 1) (by simp) rfl)
  have bu3 : y.cell? ⟨w.heap.size + 1, 3, none⟩ = some (.slice Au u.ar.length cu) := by rw [← hy]; exact ((Ext.rfl' _).al _).cellOf (box_at (w.alloc (.cells #[.int .i64 t.k, .int .i64 t.i, .string t.s, .slice At t.ar.length ct] 24)) #[.int .i64 u.k, .int .i64 u.i, .string u.s, .slice Au u.ar.length cu] 24 3 _ (w.heap.size + 1) (by simp) rfl)
  have bp0 : y.cell? ⟨w.heap.size + 1 + 1, 0, none⟩ = some (.int .i64 p.k) := by rw [← hy]; exact box_at ((w.alloc (.cells #[.int .i64 t.k, .int .i64 t.i, .string t.s, .slice At t.ar.length ct] 24)).alloc (.cells #[.int .i64 u.k, .int .i64 u.i, .string u.s, .slice Au u.ar.length cu] 24)) #[.int .i64 p.k, .int .i64 p.i, .string p.s, .slice Ap p.ar.length cp] 24 0 _ (w.heap.size + 1 + 1) (by simp) rfl
  have bp1 : y.cell? ⟨w.heap.size + 1 + 1, 1, none⟩ = some (.int .i64 p.i) := by rw [← hy]; exact box_at ((w.alloc (.cells #[.int .i64 t.k, .int .i64 t.i, .string t.s, .slice At t.ar.length ct] 24)).alloc (.cells #[.int .i64 u.k, .int .i64 u.i, .string u.s, .slice Au u.ar.length cu] 24)) #[.int .i64 p.k, .int .i64 p.i, .string p.s, .slice Ap p.ar.length cp] 24 1 _ (w.heap.size + 1 + 1) (by simp) rfl
  have bp2 : y.cell? ⟨w.heap.size + 1 + 1, 2, none⟩ = some (.string p.s) := by rw [← hy]; exact box_at ((w.alloc (.cells #[.int .i64 t.k, .int .i64 t.i, .string t.s, .slice At t.ar.length ct] 24)).alloc (.cells #[.int .i64 u.k, .int .i64 u.i, .string u.s, .slice Au u.ar.length cu] 24)) #[.int .i64 p.k, .int .i64 p.i, .string p.s, .slice Ap p.ar.length cp] 24 2 _ (w.heap.size + 1 + 1) (by simp) rfl
  have bp3 : y.cell? ⟨w.heap.size + 1 + 1, 3, none⟩ = some (.slice Ap p.ar.length cp) := by rw [← hy]; exact box_at ((w.alloc (.cells #[.int .i64 t.k, .int .i64 t.i, .string t.s, .slice At t.ar.length ct] 24)).alloc (.cells #[.int .i64 u.k, .int .i64 u.i, .string u.s, .slice Au u.ar.length cu] 24)) #[.int .i64 p.k, .int .i64 p.i, .string p.s, .slice Ap p.ar.length cp] 24 3 _ (w.heap.size + 1 + 1) (by simp) rfl
  clear ht hu hp
  have HG := hide (fun w' (e : Ext y w') ty => great_any [t, u, p] _ 600 _ (three_slice (HCt.out _ e) (HCu.out _ e) (HCp.out _ e) ty _ rfl) (by omega) (by omega))
  by_cases hgr : weighF 64 [t, u, p] 600 < 0
  · have hg : Hid (decide (weighF 64 [t, u, p] 600 < 0) = true) := Lib.hid (decide_eq_true hgr)
    clear hgr
    go_enter Try.func5, Try.ntmps5
    go_wp2_with fail
    refine (live_any _).mono ?_
    rintro e w1 ⟨v, rfl, hv, hE1⟩
    obtain rfl : v = _ := hv
    have zt0 := hE1.cellOf bt0
    have zt1 := hE1.cellOf bt1
    have zt2 := hE1.cellOf bt2
    have zt3 := hE1.cellOf bt3
    have zu0 := hE1.cellOf bu0
    have zu1 := hE1.cellOf bu1
    have zu2 := hE1.cellOf bu2
    have zu3 := hE1.cellOf bu3
    have zp0 := hE1.cellOf bp0
    have zp1 := hE1.cellOf bp1
    have zp2 := hE1.cellOf bp2
    have zp3 := hE1.cellOf bp3
    go_wp2_with fail
    refine ((unhide HG) _ hE1 _).mono ?_
    rintro e w2 ⟨v, rfl, hv, he2⟩
    obtain rfl : v = _ := hv
    rw [hg.out]
    have hE2 := (hE1.al _).tr he2
    clear he2
    clear zt0 zt1 zt2 zt3 zu0 zu1 zu2 zu3 zp0 zp1 zp2 zp3
    go_wp2
    go_ret
    exact Ret.mk rfl (hE.out.tr hE2)
  · have hw : Hid (wt t ≤ 600 ∧ wt u ≤ 600 ∧ wt p ≤ 600) := Lib.hid (by have := weigh_wt 64 [t, u, p] 600 (by omega); simp only [wtL] at this; omega)
    have hg : Hid (decide (weighF 64 [t, u, p] 600 < 0) = false) := Lib.hid (decide_eq_false hgr)
    clear hgr
    go_enter Try.func5, Try.ntmps5
    go_wp2_with fail
    refine (live_any _).mono ?_
    rintro e w1 ⟨v, rfl, hv, hE1⟩
    obtain rfl : v = _ := hv
    have zt0 := hE1.cellOf bt0
    have zt1 := hE1.cellOf bt1
    have zt2 := hE1.cellOf bt2
    have zt3 := hE1.cellOf bt3
    have zu0 := hE1.cellOf bu0
    have zu1 := hE1.cellOf bu1
    have zu2 := hE1.cellOf bu2
    have zu3 := hE1.cellOf bu3
    have zp0 := hE1.cellOf bp0
    have zp1 := hE1.cellOf bp1
    have zp2 := hE1.cellOf bp2
    have zp3 := hE1.cellOf bp3
    go_wp2_with fail
    refine ((unhide HG) _ hE1 _).mono ?_
    rintro e w2 ⟨v, rfl, hv, he2⟩
    obtain rfl : v = _ := hv
    rw [hg.out]
    have hE2 := (hE1.al _).tr he2
    clear he2
    clear zt0 zt1 zt2 zt3 zu0 zu1 zu2 zu3 zp0 zp1 zp2 zp3
    go_wp2_with fail
    have ct0 := hE2.cellOf bt0
    have ct1 := hE2.cellOf bt1
    have ct2 := hE2.cellOf bt2
    have ct3 := hE2.cellOf bt3
    have cu0 := hE2.cellOf bu0
    have cu1 := hE2.cellOf bu1
    have cu2 := hE2.cellOf bu2
    have cu3 := hE2.cellOf bu3
    have cp0 := hE2.cellOf bp0
    have cp1 := hE2.cellOf bp1
    have cp2 := hE2.cellOf bp2
    have cp3 := hE2.cellOf bp3
    refine wp_region_sched [(0, true), (1, true), (3, true), (4, true), (6, true), (7, true), (2, false), (5, false), (8, false), (9, true), (10, true), (11, true)] (by kernel_rfl) (by kernel_rfl) (Ext w2) (Ext.rfl' w2).dr ?_
    iterate 6 (refine sQ rfl rfl ?_ ?_ ?_; rotate_left; (· (intro w' hw'; have zt0 := hw'.cellOf ct0; have zt1 := hw'.cellOf ct1; have zt2 := hw'.cellOf ct2; have zt3 := hw'.cellOf ct3; have zu0 := hw'.cellOf cu0; have zu1 := hw'.cellOf cu1; have zu2 := hw'.cellOf cu2; have zu3 := hw'.cellOf cu3; have zp0 := hw'.cellOf cp0; have zp1 := hw'.cellOf cp1; have zp2 := hw'.cellOf cp2; have zp3 := hw'.cellOf cp3; go_simp; try with_reducible rfl)); try simp only [Act.put, List.setIfInBounds_toArray, List.set_cons_succ, List.set_cons_zero])
    refine sL rfl rfl ?_
    go_wp2_with fail
    refine (compare_any 600 (by omega) t u _ _ _ hw.out.1 (HCt.out _ (hE2.tr (Ext.rfl' w2).dr)) (HCu.out _ (hE2.tr (Ext.rfl' w2).dr))).mono ?_
    rintro e w3 ⟨v, rfl, hv, he3⟩
    obtain rfl : v = _ := hv
    rw [HX.out]
    have hX3 := (Ext.rfl' w2).dr.tr he3
    clear he3
    go_wp2_with fail
    refine SQ.mk hX3 ?_
    refine sL rfl rfl ?_
    go_wp2_with fail
    refine (compare_any 600 (by omega) u p _ _ _ hw.out.2.1 (HCu.out _ (hE2.tr hX3)) (HCp.out _ (hE2.tr hX3))).mono ?_
    rintro e w4 ⟨v, rfl, hv, he4⟩
    obtain rfl : v = _ := hv
    rw [HY.out]
    have hX4 := hX3.tr he4
    clear he4
    go_wp2_with fail
    refine SQ.mk hX4 ?_
    refine sL rfl rfl ?_
    go_wp2_with fail
    refine (compare_any 600 (by omega) t p _ _ _ hw.out.1 (HCt.out _ (hE2.tr hX4)) (HCp.out _ (hE2.tr hX4))).mono ?_
    rintro e w5 ⟨v, rfl, hv, he5⟩
    obtain rfl : v = _ := hv
    rw [HZ.out]
    have hX5 := hX4.tr he5
    clear he5
    go_wp2_with fail
    refine SQ.mk hX5 ?_
    iterate 3 (refine sQ rfl rfl ?_ ?_ ?_; rotate_left; (· (intro w' hw'; have zt0 := hw'.cellOf ct0; have zt1 := hw'.cellOf ct1; have zt2 := hw'.cellOf ct2; have zt3 := hw'.cellOf ct3; have zu0 := hw'.cellOf cu0; have zu1 := hw'.cellOf cu1; have zu2 := hw'.cellOf cu2; have zu3 := hw'.cellOf cu3; have zp0 := hw'.cellOf cp0; have zp1 := hw'.cellOf cp1; have zp2 := hw'.cellOf cp2; have zp3 := hw'.cellOf cp3; go_simp; try with_reducible rfl)); try simp only [Act.put, List.setIfInBounds_toArray, List.set_cons_succ, List.set_cons_zero])
    refine sE ?_
    have hE5 := hE2.tr hX5
    clear ct0 ct1 ct2 ct3 cu0 cu1 cu2 cu3 cp0 cp1 cp2 cp3 hX3 hX4 hX5
    have zt0 := hE5.cellOf bt0
    have zt1 := hE5.cellOf bt1
    have zt2 := hE5.cellOf bt2
    have zt3 := hE5.cellOf bt3
    have zu0 := hE5.cellOf bu0
    have zu1 := hE5.cellOf bu1
    have zu2 := hE5.cellOf bu2
    have zu3 := hE5.cellOf bu3
    have zp0 := hE5.cellOf bp0
    have zp1 := hE5.cellOf bp1
    have zp2 := hE5.cellOf bp2
    have zp3 := hE5.cellOf bp3
    go_wp2_with fail
    refine (compare_any 600 (by omega) u t _ _ _ hw.out.2.1 (HCu.out _ (hE5)) (HCt.out _ (hE5))).mono ?_
    rintro e w6 ⟨v, rfl, hv, he6⟩
    obtain rfl : v = _ := hv
    rw [HN.out]
    have hE6 := (hE5).tr he6
    clear he6
    clear zt0 zt1 zt2 zt3 zu0 zu1 zu2 zu3 zp0 zp1 zp2 zp3
    have zt0 := hE6.cellOf bt0
    have zt1 := hE6.cellOf bt1
    have zt2 := hE6.cellOf bt2
    have zt3 := hE6.cellOf bt3
    have zu0 := hE6.cellOf bu0
    have zu1 := hE6.cellOf bu1
    have zu2 := hE6.cellOf bu2
    have zu3 := hE6.cellOf bu3
    have zp0 := hE6.cellOf bp0
    have zp1 := hE6.cellOf bp1
    have zp2 := hE6.cellOf bp2
    have zp3 := hE6.cellOf bp3
    go_wp2_with fail
    refine (compare_any 600 (by omega) t t _ _ _ hw.out.1 (HCt.out _ (hE6)) (HCt.out _ (hE6))).mono ?_
    rintro e w7 ⟨v, rfl, hv, he7⟩
    obtain rfl : v = _ := hv
    rw [HO.out]
    have hE7 := (hE6).tr he7
    clear he7
    clear zt0 zt1 zt2 zt3 zu0 zu1 zu2 zu3 zp0 zp1 zp2 zp3
    have zt0 := hE7.cellOf bt0
    have zt1 := hE7.cellOf bt1
    have zt2 := hE7.cellOf bt2
    have zt3 := hE7.cellOf bt3
    have zu0 := hE7.cellOf bu0
    have zu1 := hE7.cellOf bu1
    have zu2 := hE7.cellOf bu2
    have zu3 := hE7.cellOf bu3
    have zp0 := hE7.cellOf bp0
    have zp1 := hE7.cellOf bp1
    have zp2 := hE7.cellOf bp2
    have zp3 := hE7.cellOf bp3
    go_wp2_with fail
    refine (same_any 600 (by omega) p p _ _ _ hw.out.2.2 (HCp.out _ (hE7)) (HCp.out _ (hE7))).mono ?_
    rintro e w8 ⟨v, rfl, hv, he8⟩
    obtain rfl : v = _ := hv
    rw [HP.out]
    have hE8 := (hE7).tr he8
    clear he8
    clear zt0 zt1 zt2 zt3 zu0 zu1 zu2 zu3 zp0 zp1 zp2 zp3
    have zt0 := hE8.cellOf bt0
    have zt1 := hE8.cellOf bt1
    have zt2 := hE8.cellOf bt2
    have zt3 := hE8.cellOf bt3
    have zu0 := hE8.cellOf bu0
    have zu1 := hE8.cellOf bu1
    have zu2 := hE8.cellOf bu2
    have zu3 := hE8.cellOf bu3
    have zp0 := hE8.cellOf bp0
    have zp1 := hE8.cellOf bp1
    have zp2 := hE8.cellOf bp2
    have zp3 := hE8.cellOf bp3
    go_wp2_with fail
    refine (same_any 600 (by omega) t u _ _ _ hw.out.1 (HCt.out _ (hE8)) (HCu.out _ (hE8))).mono ?_
    rintro e w9 ⟨v, rfl, hv, he9⟩
    obtain rfl : v = _ := hv
    rw [HS.out]
    have hE9 := (hE8).tr he9
    clear he9
    clear zt0 zt1 zt2 zt3 zu0 zu1 zu2 zu3 zp0 zp1 zp2 zp3
    have zt0 := hE9.cellOf bt0
    have zt1 := hE9.cellOf bt1
    have zt2 := hE9.cellOf bt2
    have zt3 := hE9.cellOf bt3
    have zu0 := hE9.cellOf bu0
    have zu1 := hE9.cellOf bu1
    have zu2 := hE9.cellOf bu2
    have zu3 := hE9.cellOf bu3
    have zp0 := hE9.cellOf bp0
    have zp1 := hE9.cellOf bp1
    have zp2 := hE9.cellOf bp2
    have zp3 := hE9.cellOf bp3
    go_wp2_with fail
    all_goals try (exfalso; have := HT.out; unfold Tri at this; omega)
    all_goals
      clear zt0 zt1 zt2 zt3 zu0 zu1 zu2 zu3 zp0 zp1 zp2 zp3
      have ct0 := hE9.cellOf bt0
      have ct1 := hE9.cellOf bt1
      have ct2 := hE9.cellOf bt2
      have ct3 := hE9.cellOf bt3
      have cu0 := hE9.cellOf bu0
      have cu1 := hE9.cellOf bu1
      have cu2 := hE9.cellOf bu2
      have cu3 := hE9.cellOf bu3
      have cp0 := hE9.cellOf bp0
      have cp1 := hE9.cellOf bp1
      have cp2 := hE9.cellOf bp2
      have cp3 := hE9.cellOf bp3
      refine wp_region_sched [(0, true), (1, true), (2, true), (3, true), (4, true), (5, true), (6, true), (7, true), (8, true), (9, true), (10, true), (11, true), (13, true), (14, true), (12, false), (15, false), (16, true), (17, true), (18, true), (19, true)] (by kernel_rfl) (by kernel_rfl) (Ext w9) (Ext.rfl' w9).dr ?_
      iterate 10 (refine sQ rfl rfl ?_ ?_ ?_; rotate_left; (· (intro w' hw'; have zt0 := hw'.cellOf ct0; have zt1 := hw'.cellOf ct1; have zt2 := hw'.cellOf ct2; have zt3 := hw'.cellOf ct3; have zu0 := hw'.cellOf cu0; have zu1 := hw'.cellOf cu1; have zu2 := hw'.cellOf cu2; have zu3 := hw'.cellOf cu3; have zp0 := hw'.cellOf cp0; have zp1 := hw'.cellOf cp1; have zp2 := hw'.cellOf cp2; have zp3 := hw'.cellOf cp3; go_simp; try with_reducible rfl)); try simp only [Act.put, List.setIfInBounds_toArray, List.set_cons_succ, List.set_cons_zero])
      iterate 4 (refine sN rfl rfl ?_; simp only [Act.put, List.setIfInBounds_toArray, List.set_cons_succ, List.set_cons_zero])
      (refine sM rfl rfl ?_; simp only [Act.put, List.setIfInBounds_toArray, List.set_cons_succ, List.set_cons_zero])
      (refine sM rfl rfl ?_; simp only [Act.put, List.setIfInBounds_toArray, List.set_cons_succ, List.set_cons_zero])
      iterate 1 (refine sN rfl rfl ?_; simp only [Act.put, List.setIfInBounds_toArray, List.set_cons_succ, List.set_cons_zero])
      iterate 3 (refine sQ rfl rfl ?_ ?_ ?_; rotate_left; (· (intro w' hw'; have zt0 := hw'.cellOf ct0; have zt1 := hw'.cellOf ct1; have zt2 := hw'.cellOf ct2; have zt3 := hw'.cellOf ct3; have zu0 := hw'.cellOf cu0; have zu1 := hw'.cellOf cu1; have zu2 := hw'.cellOf cu2; have zu3 := hw'.cellOf cu3; have zp0 := hw'.cellOf cp0; have zp1 := hw'.cellOf cp1; have zp2 := hw'.cellOf cp2; have zp3 := hw'.cellOf cp3; go_simp; try with_reducible rfl)); try simp only [Act.put, List.setIfInBounds_toArray, List.set_cons_succ, List.set_cons_zero])
      refine sE ?_
      go_wp2
      go_ret
      exact Ret.mk rfl ((hE.out.tr hE9).tr (Ext.rfl' w9).dr)
set_option maxHeartbeats 4000000 in
theorem walk_eq (t u p : T) (HX : Hid (cmpT t u = 0)) (Y Z : Int) (HY : Hid (cmpT u p = Y)) (HZ : Hid (cmpT t p = Z)) (v x r : Value) (w : World) (ht : VT w t v) (hu : VT w u x) (hp : VT w p r) : Calls Try.prog 5 #[v, x, r] w (Ret w (Is (.bool true))) := by
  have HT : Hid (Tri (0) Y Z) := Lib.hid (by have := cmp_tri t u p; rwa [HX.out, HY.out, HZ.out] at this)
  have HN : Hid (cmpT u t = 0) := Lib.hid (by have h := cmp_neg t u; have := HX.out; omega)
  have HS : Hid (sameT t u = true) := Lib.hid (by unfold sameT; rw [HX.out]; rfl)
  have HP : Hid (sameT p p = true) := Lib.hid (by unfold sameT; rw [cmp_self]; rfl)
  have HO : Hid (cmpT t t = 0) := Lib.hid (cmp_self t)
  have HQ : Hid (cmpT p t = cmpT p u) := Lib.hid (cmp_zero p HX.out)
  obtain ⟨st, rfl, hst, -⟩ := ht.open_
  obtain ⟨At, ct, xst, rfl, -⟩ := hst
  obtain ⟨su, rfl, hsu, -⟩ := hu.open_
  obtain ⟨Au, cu, xsu, rfl, -⟩ := hsu
  obtain ⟨sp, rfl, hsp, -⟩ := hp.open_
  obtain ⟨Ap, cp, xsp, rfl, -⟩ := hsp
  obtain ⟨y, hy⟩ : ∃ y, (((w.alloc (.cells #[.int .i64 t.k, .int .i64 t.i, .string t.s, .slice At t.ar.length ct] 24)).alloc (.cells #[.int .i64 u.k, .int .i64 u.i, .string u.s, .slice Au u.ar.length cu] 24)).alloc (.cells #[.int .i64 p.k, .int .i64 p.i, .string p.s, .slice Ap p.ar.length cp] 24)) = y := ⟨_, rfl⟩
  have hE : Hid (Ext w y) := Lib.hid (by rw [← hy]; exact ((((Ext.rfl' w).al _).al _).al _))
  have HCt : Hid (∀ w', Ext y w' → VT w' t (.agg #[.int .i64 t.k, .int .i64 t.i, .string t.s, .slice At t.ar.length ct])) := Lib.hid fun w' e => ht.ext (hE.out.tr e)
  have HCu : Hid (∀ w', Ext y w' → VT w' u (.agg #[.int .i64 u.k, .int .i64 u.i, .string u.s, .slice Au u.ar.length cu])) := Lib.hid fun w' e => hu.ext (hE.out.tr e)
  have HCp : Hid (∀ w', Ext y w' → VT w' p (.agg #[.int .i64 p.k, .int .i64 p.i, .string p.s, .slice Ap p.ar.length cp])) := Lib.hid fun w' e => hp.ext (hE.out.tr e)
  have bt0 : y.cell? ⟨w.heap.size, 0, none⟩ = some (.int .i64 t.k) := by rw [← hy]; exact ((Ext.rfl' _).al _).cellOf (((Ext.rfl' _).al _).cellOf (box_at w #[.int .i64 t.k, .int .i64 t.i, .string t.s, .slice At t.ar.length ct] 24 0 _ (w.heap.size) (by simp) rfl))
  have bt1 : y.cell? ⟨w.heap.size, 1, none⟩ = some (.int .i64 t.i) := by rw [← hy]; exact ((Ext.rfl' _).al _).cellOf (((Ext.rfl' _).al _).cellOf (box_at w #[.int .i64 t.k, .int .i64 t.i, .string t.s, .slice At t.ar.length ct] 24 1 _ (w.heap.size) (by simp) rfl))
  have bt2 : y.cell? ⟨w.heap.size, 2, none⟩ = some (.string t.s) := by rw [← hy]; exact ((Ext.rfl' _).al _).cellOf (((Ext.rfl' _).al _).cellOf (box_at w #[.int .i64 t.k, .int .i64 t.i, .string t.s, .slice At t.ar.length ct] 24 2 _ (w.heap.size) (by simp) rfl))
  have bt3 : y.cell? ⟨w.heap.size, 3, none⟩ = some (.slice At t.ar.length ct) := by rw [← hy]; exact ((Ext.rfl' _).al _).cellOf (((Ext.rfl' _).al _).cellOf (box_at w #[.int .i64 t.k, .int .i64 t.i, .string t.s, .slice At t.ar.length ct] 24 3 _ (w.heap.size) (by simp) rfl))
  have bu0 : y.cell? ⟨w.heap.size + 1, 0, none⟩ = some (.int .i64 u.k) := by rw [← hy]; exact ((Ext.rfl' _).al _).cellOf (box_at (w.alloc (.cells #[.int .i64 t.k, .int .i64 t.i, .string t.s, .slice At t.ar.length ct] 24)) #[.int .i64 u.k, .int .i64 u.i, .string u.s, .slice Au u.ar.length cu] 24 0 _ (w.heap.size + 1) (by simp) rfl)
  have bu1 : y.cell? ⟨w.heap.size + 1, 1, none⟩ = some (.int .i64 u.i) := by rw [← hy]; exact ((Ext.rfl' _).al _).cellOf (box_at (w.alloc (.cells #[.int .i64 t.k, .int .i64 t.i, .string t.s, .slice At t.ar.length ct] 24)) #[.int .i64 u.k, .int .i64 u.i, .string u.s, .slice Au u.ar.length cu] 24 1 _ (w.heap.size + 1) (by simp) rfl)
  have bu2 : y.cell? ⟨w.heap.size + 1, 2, none⟩ = some (.string u.s) := by rw [← hy]; exact ((Ext.rfl' _).al _).cellOf (box_at (w.alloc (.cells #[.int .i64 t.k, .int .i64 t.i, .string t.s, .slice At t.ar.length ct] 24)) #[.int .i64 u.k, .int .i64 u.i, .string u.s, .slice Au u.ar.length cu] 24 2 _ (w.heap.size + 1) (by simp) rfl)
  have bu3 : y.cell? ⟨w.heap.size + 1, 3, none⟩ = some (.slice Au u.ar.length cu) := by rw [← hy]; exact ((Ext.rfl' _).al _).cellOf (box_at (w.alloc (.cells #[.int .i64 t.k, .int .i64 t.i, .string t.s, .slice At t.ar.length ct] 24)) #[.int .i64 u.k, .int .i64 u.i, .string u.s, .slice Au u.ar.length cu] 24 3 _ (w.heap.size + 1) (by simp) rfl)
  have bp0 : y.cell? ⟨w.heap.size + 1 + 1, 0, none⟩ = some (.int .i64 p.k) := by rw [← hy]; exact box_at ((w.alloc (.cells #[.int .i64 t.k, .int .i64 t.i, .string t.s, .slice At t.ar.length ct] 24)).alloc (.cells #[.int .i64 u.k, .int .i64 u.i, .string u.s, .slice Au u.ar.length cu] 24)) #[.int .i64 p.k, .int .i64 p.i, .string p.s, .slice Ap p.ar.length cp] 24 0 _ (w.heap.size + 1 + 1) (by simp) rfl
  have bp1 : y.cell? ⟨w.heap.size + 1 + 1, 1, none⟩ = some (.int .i64 p.i) := by rw [← hy]; exact box_at ((w.alloc (.cells #[.int .i64 t.k, .int .i64 t.i, .string t.s, .slice At t.ar.length ct] 24)).alloc (.cells #[.int .i64 u.k, .int .i64 u.i, .string u.s, .slice Au u.ar.length cu] 24)) #[.int .i64 p.k, .int .i64 p.i, .string p.s, .slice Ap p.ar.length cp] 24 1 _ (w.heap.size + 1 + 1) (by simp) rfl
  have bp2 : y.cell? ⟨w.heap.size + 1 + 1, 2, none⟩ = some (.string p.s) := by rw [← hy]; exact box_at ((w.alloc (.cells #[.int .i64 t.k, .int .i64 t.i, .string t.s, .slice At t.ar.length ct] 24)).alloc (.cells #[.int .i64 u.k, .int .i64 u.i, .string u.s, .slice Au u.ar.length cu] 24)) #[.int .i64 p.k, .int .i64 p.i, .string p.s, .slice Ap p.ar.length cp] 24 2 _ (w.heap.size + 1 + 1) (by simp) rfl
  have bp3 : y.cell? ⟨w.heap.size + 1 + 1, 3, none⟩ = some (.slice Ap p.ar.length cp) := by rw [← hy]; exact box_at ((w.alloc (.cells #[.int .i64 t.k, .int .i64 t.i, .string t.s, .slice At t.ar.length ct] 24)).alloc (.cells #[.int .i64 u.k, .int .i64 u.i, .string u.s, .slice Au u.ar.length cu] 24)) #[.int .i64 p.k, .int .i64 p.i, .string p.s, .slice Ap p.ar.length cp] 24 3 _ (w.heap.size + 1 + 1) (by simp) rfl
  clear ht hu hp
  have HG := hide (fun w' (e : Ext y w') ty => great_any [t, u, p] _ 600 _ (three_slice (HCt.out _ e) (HCu.out _ e) (HCp.out _ e) ty _ rfl) (by omega) (by omega))
  by_cases hgr : weighF 64 [t, u, p] 600 < 0
  · have hg : Hid (decide (weighF 64 [t, u, p] 600 < 0) = true) := Lib.hid (decide_eq_true hgr)
    clear hgr
    go_enter Try.func5, Try.ntmps5
    go_wp2_with fail
    refine (live_any _).mono ?_
    rintro e w1 ⟨v, rfl, hv, hE1⟩
    obtain rfl : v = _ := hv
    have zt0 := hE1.cellOf bt0
    have zt1 := hE1.cellOf bt1
    have zt2 := hE1.cellOf bt2
    have zt3 := hE1.cellOf bt3
    have zu0 := hE1.cellOf bu0
    have zu1 := hE1.cellOf bu1
    have zu2 := hE1.cellOf bu2
    have zu3 := hE1.cellOf bu3
    have zp0 := hE1.cellOf bp0
    have zp1 := hE1.cellOf bp1
    have zp2 := hE1.cellOf bp2
    have zp3 := hE1.cellOf bp3
    go_wp2_with fail
    refine ((unhide HG) _ hE1 _).mono ?_
    rintro e w2 ⟨v, rfl, hv, he2⟩
    obtain rfl : v = _ := hv
    rw [hg.out]
    have hE2 := (hE1.al _).tr he2
    clear he2
    clear zt0 zt1 zt2 zt3 zu0 zu1 zu2 zu3 zp0 zp1 zp2 zp3
    go_wp2
    go_ret
    exact Ret.mk rfl (hE.out.tr hE2)
  · have hw : Hid (wt t ≤ 600 ∧ wt u ≤ 600 ∧ wt p ≤ 600) := Lib.hid (by have := weigh_wt 64 [t, u, p] 600 (by omega); simp only [wtL] at this; omega)
    have hg : Hid (decide (weighF 64 [t, u, p] 600 < 0) = false) := Lib.hid (decide_eq_false hgr)
    clear hgr
    go_enter Try.func5, Try.ntmps5
    go_wp2_with fail
    refine (live_any _).mono ?_
    rintro e w1 ⟨v, rfl, hv, hE1⟩
    obtain rfl : v = _ := hv
    have zt0 := hE1.cellOf bt0
    have zt1 := hE1.cellOf bt1
    have zt2 := hE1.cellOf bt2
    have zt3 := hE1.cellOf bt3
    have zu0 := hE1.cellOf bu0
    have zu1 := hE1.cellOf bu1
    have zu2 := hE1.cellOf bu2
    have zu3 := hE1.cellOf bu3
    have zp0 := hE1.cellOf bp0
    have zp1 := hE1.cellOf bp1
    have zp2 := hE1.cellOf bp2
    have zp3 := hE1.cellOf bp3
    go_wp2_with fail
    refine ((unhide HG) _ hE1 _).mono ?_
    rintro e w2 ⟨v, rfl, hv, he2⟩
    obtain rfl : v = _ := hv
    rw [hg.out]
    have hE2 := (hE1.al _).tr he2
    clear he2
    clear zt0 zt1 zt2 zt3 zu0 zu1 zu2 zu3 zp0 zp1 zp2 zp3
    go_wp2_with fail
    have ct0 := hE2.cellOf bt0
    have ct1 := hE2.cellOf bt1
    have ct2 := hE2.cellOf bt2
    have ct3 := hE2.cellOf bt3
    have cu0 := hE2.cellOf bu0
    have cu1 := hE2.cellOf bu1
    have cu2 := hE2.cellOf bu2
    have cu3 := hE2.cellOf bu3
    have cp0 := hE2.cellOf bp0
    have cp1 := hE2.cellOf bp1
    have cp2 := hE2.cellOf bp2
    have cp3 := hE2.cellOf bp3
    refine wp_region_sched [(0, true), (1, true), (3, true), (4, true), (6, true), (7, true), (2, false), (5, false), (8, false), (9, true), (10, true), (11, true)] (by kernel_rfl) (by kernel_rfl) (Ext w2) (Ext.rfl' w2).dr ?_
    iterate 6 (refine sQ rfl rfl ?_ ?_ ?_; rotate_left; (· (intro w' hw'; have zt0 := hw'.cellOf ct0; have zt1 := hw'.cellOf ct1; have zt2 := hw'.cellOf ct2; have zt3 := hw'.cellOf ct3; have zu0 := hw'.cellOf cu0; have zu1 := hw'.cellOf cu1; have zu2 := hw'.cellOf cu2; have zu3 := hw'.cellOf cu3; have zp0 := hw'.cellOf cp0; have zp1 := hw'.cellOf cp1; have zp2 := hw'.cellOf cp2; have zp3 := hw'.cellOf cp3; go_simp; try with_reducible rfl)); try simp only [Act.put, List.setIfInBounds_toArray, List.set_cons_succ, List.set_cons_zero])
    refine sL rfl rfl ?_
    go_wp2_with fail
    refine (compare_any 600 (by omega) t u _ _ _ hw.out.1 (HCt.out _ (hE2.tr (Ext.rfl' w2).dr)) (HCu.out _ (hE2.tr (Ext.rfl' w2).dr))).mono ?_
    rintro e w3 ⟨v, rfl, hv, he3⟩
    obtain rfl : v = _ := hv
    rw [HX.out]
    have hX3 := (Ext.rfl' w2).dr.tr he3
    clear he3
    go_wp2_with fail
    refine SQ.mk hX3 ?_
    refine sL rfl rfl ?_
    go_wp2_with fail
    refine (compare_any 600 (by omega) u p _ _ _ hw.out.2.1 (HCu.out _ (hE2.tr hX3)) (HCp.out _ (hE2.tr hX3))).mono ?_
    rintro e w4 ⟨v, rfl, hv, he4⟩
    obtain rfl : v = _ := hv
    rw [HY.out]
    have hX4 := hX3.tr he4
    clear he4
    go_wp2_with fail
    refine SQ.mk hX4 ?_
    refine sL rfl rfl ?_
    go_wp2_with fail
    refine (compare_any 600 (by omega) t p _ _ _ hw.out.1 (HCt.out _ (hE2.tr hX4)) (HCp.out _ (hE2.tr hX4))).mono ?_
    rintro e w5 ⟨v, rfl, hv, he5⟩
    obtain rfl : v = _ := hv
    rw [HZ.out]
    have hX5 := hX4.tr he5
    clear he5
    go_wp2_with fail
    refine SQ.mk hX5 ?_
    iterate 3 (refine sQ rfl rfl ?_ ?_ ?_; rotate_left; (· (intro w' hw'; have zt0 := hw'.cellOf ct0; have zt1 := hw'.cellOf ct1; have zt2 := hw'.cellOf ct2; have zt3 := hw'.cellOf ct3; have zu0 := hw'.cellOf cu0; have zu1 := hw'.cellOf cu1; have zu2 := hw'.cellOf cu2; have zu3 := hw'.cellOf cu3; have zp0 := hw'.cellOf cp0; have zp1 := hw'.cellOf cp1; have zp2 := hw'.cellOf cp2; have zp3 := hw'.cellOf cp3; go_simp; try with_reducible rfl)); try simp only [Act.put, List.setIfInBounds_toArray, List.set_cons_succ, List.set_cons_zero])
    refine sE ?_
    have hE5 := hE2.tr hX5
    clear ct0 ct1 ct2 ct3 cu0 cu1 cu2 cu3 cp0 cp1 cp2 cp3 hX3 hX4 hX5
    have zt0 := hE5.cellOf bt0
    have zt1 := hE5.cellOf bt1
    have zt2 := hE5.cellOf bt2
    have zt3 := hE5.cellOf bt3
    have zu0 := hE5.cellOf bu0
    have zu1 := hE5.cellOf bu1
    have zu2 := hE5.cellOf bu2
    have zu3 := hE5.cellOf bu3
    have zp0 := hE5.cellOf bp0
    have zp1 := hE5.cellOf bp1
    have zp2 := hE5.cellOf bp2
    have zp3 := hE5.cellOf bp3
    go_wp2_with fail
    refine (compare_any 600 (by omega) u t _ _ _ hw.out.2.1 (HCu.out _ (hE5)) (HCt.out _ (hE5))).mono ?_
    rintro e w6 ⟨v, rfl, hv, he6⟩
    obtain rfl : v = _ := hv
    rw [HN.out]
    have hE6 := (hE5).tr he6
    clear he6
    clear zt0 zt1 zt2 zt3 zu0 zu1 zu2 zu3 zp0 zp1 zp2 zp3
    have zt0 := hE6.cellOf bt0
    have zt1 := hE6.cellOf bt1
    have zt2 := hE6.cellOf bt2
    have zt3 := hE6.cellOf bt3
    have zu0 := hE6.cellOf bu0
    have zu1 := hE6.cellOf bu1
    have zu2 := hE6.cellOf bu2
    have zu3 := hE6.cellOf bu3
    have zp0 := hE6.cellOf bp0
    have zp1 := hE6.cellOf bp1
    have zp2 := hE6.cellOf bp2
    have zp3 := hE6.cellOf bp3
    go_wp2_with fail
    refine (compare_any 600 (by omega) t t _ _ _ hw.out.1 (HCt.out _ (hE6)) (HCt.out _ (hE6))).mono ?_
    rintro e w7 ⟨v, rfl, hv, he7⟩
    obtain rfl : v = _ := hv
    rw [HO.out]
    have hE7 := (hE6).tr he7
    clear he7
    clear zt0 zt1 zt2 zt3 zu0 zu1 zu2 zu3 zp0 zp1 zp2 zp3
    have zt0 := hE7.cellOf bt0
    have zt1 := hE7.cellOf bt1
    have zt2 := hE7.cellOf bt2
    have zt3 := hE7.cellOf bt3
    have zu0 := hE7.cellOf bu0
    have zu1 := hE7.cellOf bu1
    have zu2 := hE7.cellOf bu2
    have zu3 := hE7.cellOf bu3
    have zp0 := hE7.cellOf bp0
    have zp1 := hE7.cellOf bp1
    have zp2 := hE7.cellOf bp2
    have zp3 := hE7.cellOf bp3
    go_wp2_with fail
    refine (same_any 600 (by omega) p p _ _ _ hw.out.2.2 (HCp.out _ (hE7)) (HCp.out _ (hE7))).mono ?_
    rintro e w8 ⟨v, rfl, hv, he8⟩
    obtain rfl : v = _ := hv
    rw [HP.out]
    have hE8 := (hE7).tr he8
    clear he8
    clear zt0 zt1 zt2 zt3 zu0 zu1 zu2 zu3 zp0 zp1 zp2 zp3
    have zt0 := hE8.cellOf bt0
    have zt1 := hE8.cellOf bt1
    have zt2 := hE8.cellOf bt2
    have zt3 := hE8.cellOf bt3
    have zu0 := hE8.cellOf bu0
    have zu1 := hE8.cellOf bu1
    have zu2 := hE8.cellOf bu2
    have zu3 := hE8.cellOf bu3
    have zp0 := hE8.cellOf bp0
    have zp1 := hE8.cellOf bp1
    have zp2 := hE8.cellOf bp2
    have zp3 := hE8.cellOf bp3
    go_wp2_with fail
    refine (same_any 600 (by omega) t u _ _ _ hw.out.1 (HCt.out _ (hE8)) (HCu.out _ (hE8))).mono ?_
    rintro e w9 ⟨v, rfl, hv, he9⟩
    obtain rfl : v = _ := hv
    rw [HS.out]
    have hE9 := (hE8).tr he9
    clear he9
    clear zt0 zt1 zt2 zt3 zu0 zu1 zu2 zu3 zp0 zp1 zp2 zp3
    have zt0 := hE9.cellOf bt0
    have zt1 := hE9.cellOf bt1
    have zt2 := hE9.cellOf bt2
    have zt3 := hE9.cellOf bt3
    have zu0 := hE9.cellOf bu0
    have zu1 := hE9.cellOf bu1
    have zu2 := hE9.cellOf bu2
    have zu3 := hE9.cellOf bu3
    have zp0 := hE9.cellOf bp0
    have zp1 := hE9.cellOf bp1
    have zp2 := hE9.cellOf bp2
    have zp3 := hE9.cellOf bp3
    go_wp2_with fail
    all_goals try (exfalso; have := HT.out; unfold Tri at this; omega)
    all_goals
      clear zt0 zt1 zt2 zt3 zu0 zu1 zu2 zu3 zp0 zp1 zp2 zp3
      have ct0 := hE9.cellOf bt0
      have ct1 := hE9.cellOf bt1
      have ct2 := hE9.cellOf bt2
      have ct3 := hE9.cellOf bt3
      have cu0 := hE9.cellOf bu0
      have cu1 := hE9.cellOf bu1
      have cu2 := hE9.cellOf bu2
      have cu3 := hE9.cellOf bu3
      have cp0 := hE9.cellOf bp0
      have cp1 := hE9.cellOf bp1
      have cp2 := hE9.cellOf bp2
      have cp3 := hE9.cellOf bp3
      refine wp_region_sched [(0, true), (1, true), (2, true), (3, true), (4, true), (5, true), (6, true), (7, true), (8, true), (9, true), (10, true), (11, true), (13, true), (14, true), (12, false), (15, false), (16, true), (17, true), (18, true), (19, true)] (by kernel_rfl) (by kernel_rfl) (Ext w9) (Ext.rfl' w9).dr ?_
      iterate 14 (refine sQ rfl rfl ?_ ?_ ?_; rotate_left; (· (intro w' hw'; have zt0 := hw'.cellOf ct0; have zt1 := hw'.cellOf ct1; have zt2 := hw'.cellOf ct2; have zt3 := hw'.cellOf ct3; have zu0 := hw'.cellOf cu0; have zu1 := hw'.cellOf cu1; have zu2 := hw'.cellOf cu2; have zu3 := hw'.cellOf cu3; have zp0 := hw'.cellOf cp0; have zp1 := hw'.cellOf cp1; have zp2 := hw'.cellOf cp2; have zp3 := hw'.cellOf cp3; go_simp; try with_reducible rfl)); try simp only [Act.put, List.setIfInBounds_toArray, List.set_cons_succ, List.set_cons_zero])
      refine sL rfl rfl ?_
      go_wp2_with fail
      refine (compare_any 600 (by omega) p t _ _ _ hw.out.2.2 (HCp.out _ (hE9.tr (Ext.rfl' w9).dr)) (HCt.out _ (hE9.tr (Ext.rfl' w9).dr))).mono ?_
      rintro e w10 ⟨v, rfl, hv, he10⟩
      obtain rfl : v = _ := hv
      rw [HQ.out]
      have hX10 := (Ext.rfl' w9).dr.tr he10
      clear he10
      go_wp2_with fail
      refine SQ.mk hX10 ?_
      refine sL rfl rfl ?_
      go_wp2_with fail
      refine (compare_any 600 (by omega) p u _ _ _ hw.out.2.2 (HCp.out _ (hE9.tr hX10)) (HCu.out _ (hE9.tr hX10))).mono ?_
      rintro e w11 ⟨v, rfl, hv, he11⟩
      obtain rfl : v = _ := hv
      skip
      have hX11 := hX10.tr he11
      clear he11
      go_wp2_with fail
      refine SQ.mk hX11 ?_
      iterate 4 (refine sQ rfl rfl ?_ ?_ ?_; rotate_left; (· (intro w' hw'; have zt0 := hw'.cellOf ct0; have zt1 := hw'.cellOf ct1; have zt2 := hw'.cellOf ct2; have zt3 := hw'.cellOf ct3; have zu0 := hw'.cellOf cu0; have zu1 := hw'.cellOf cu1; have zu2 := hw'.cellOf cu2; have zu3 := hw'.cellOf cu3; have zp0 := hw'.cellOf cp0; have zp1 := hw'.cellOf cp1; have zp2 := hw'.cellOf cp2; have zp3 := hw'.cellOf cp3; go_simp; try with_reducible rfl)); try simp only [Act.put, List.setIfInBounds_toArray, List.set_cons_succ, List.set_cons_zero])
      refine sE ?_
      go_wp2
      go_ret
      exact Ret.mk rfl ((hE.out.tr hE9).tr hX11)
set_option maxHeartbeats 4000000 in
theorem walk_gt (t u p : T) (HX : Hid (cmpT t u = 1)) (Y Z : Int) (HY : Hid (cmpT u p = Y)) (HZ : Hid (cmpT t p = Z)) (v x r : Value) (w : World) (ht : VT w t v) (hu : VT w u x) (hp : VT w p r) : Calls Try.prog 5 #[v, x, r] w (Ret w (Is (.bool true))) := by
  have HT : Hid (Tri (1) Y Z) := Lib.hid (by have := cmp_tri t u p; rwa [HX.out, HY.out, HZ.out] at this)
  have HN : Hid (cmpT u t = -1) := Lib.hid (by have h := cmp_neg t u; have := HX.out; omega)
  have HS : Hid (sameT t u = false) := Lib.hid (by unfold sameT; rw [HX.out]; rfl)
  have HP : Hid (sameT p p = true) := Lib.hid (by unfold sameT; rw [cmp_self]; rfl)
  have HO : Hid (cmpT t t = 0) := Lib.hid (cmp_self t)
  obtain ⟨st, rfl, hst, -⟩ := ht.open_
  obtain ⟨At, ct, xst, rfl, -⟩ := hst
  obtain ⟨su, rfl, hsu, -⟩ := hu.open_
  obtain ⟨Au, cu, xsu, rfl, -⟩ := hsu
  obtain ⟨sp, rfl, hsp, -⟩ := hp.open_
  obtain ⟨Ap, cp, xsp, rfl, -⟩ := hsp
  obtain ⟨y, hy⟩ : ∃ y, (((w.alloc (.cells #[.int .i64 t.k, .int .i64 t.i, .string t.s, .slice At t.ar.length ct] 24)).alloc (.cells #[.int .i64 u.k, .int .i64 u.i, .string u.s, .slice Au u.ar.length cu] 24)).alloc (.cells #[.int .i64 p.k, .int .i64 p.i, .string p.s, .slice Ap p.ar.length cp] 24)) = y := ⟨_, rfl⟩
  have hE : Hid (Ext w y) := Lib.hid (by rw [← hy]; exact ((((Ext.rfl' w).al _).al _).al _))
  have HCt : Hid (∀ w', Ext y w' → VT w' t (.agg #[.int .i64 t.k, .int .i64 t.i, .string t.s, .slice At t.ar.length ct])) := Lib.hid fun w' e => ht.ext (hE.out.tr e)
  have HCu : Hid (∀ w', Ext y w' → VT w' u (.agg #[.int .i64 u.k, .int .i64 u.i, .string u.s, .slice Au u.ar.length cu])) := Lib.hid fun w' e => hu.ext (hE.out.tr e)
  have HCp : Hid (∀ w', Ext y w' → VT w' p (.agg #[.int .i64 p.k, .int .i64 p.i, .string p.s, .slice Ap p.ar.length cp])) := Lib.hid fun w' e => hp.ext (hE.out.tr e)
  have bt0 : y.cell? ⟨w.heap.size, 0, none⟩ = some (.int .i64 t.k) := by rw [← hy]; exact ((Ext.rfl' _).al _).cellOf (((Ext.rfl' _).al _).cellOf (box_at w #[.int .i64 t.k, .int .i64 t.i, .string t.s, .slice At t.ar.length ct] 24 0 _ (w.heap.size) (by simp) rfl))
  have bt1 : y.cell? ⟨w.heap.size, 1, none⟩ = some (.int .i64 t.i) := by rw [← hy]; exact ((Ext.rfl' _).al _).cellOf (((Ext.rfl' _).al _).cellOf (box_at w #[.int .i64 t.k, .int .i64 t.i, .string t.s, .slice At t.ar.length ct] 24 1 _ (w.heap.size) (by simp) rfl))
  have bt2 : y.cell? ⟨w.heap.size, 2, none⟩ = some (.string t.s) := by rw [← hy]; exact ((Ext.rfl' _).al _).cellOf (((Ext.rfl' _).al _).cellOf (box_at w #[.int .i64 t.k, .int .i64 t.i, .string t.s, .slice At t.ar.length ct] 24 2 _ (w.heap.size) (by simp) rfl))
  have bt3 : y.cell? ⟨w.heap.size, 3, none⟩ = some (.slice At t.ar.length ct) := by rw [← hy]; exact ((Ext.rfl' _).al _).cellOf (((Ext.rfl' _).al _).cellOf (box_at w #[.int .i64 t.k, .int .i64 t.i, .string t.s, .slice At t.ar.length ct] 24 3 _ (w.heap.size) (by simp) rfl))
  have bu0 : y.cell? ⟨w.heap.size + 1, 0, none⟩ = some (.int .i64 u.k) := by rw [← hy]; exact ((Ext.rfl' _).al _).cellOf (box_at (w.alloc (.cells #[.int .i64 t.k, .int .i64 t.i, .string t.s, .slice At t.ar.length ct] 24)) #[.int .i64 u.k, .int .i64 u.i, .string u.s, .slice Au u.ar.length cu] 24 0 _ (w.heap.size + 1) (by simp) rfl)
  have bu1 : y.cell? ⟨w.heap.size + 1, 1, none⟩ = some (.int .i64 u.i) := by rw [← hy]; exact ((Ext.rfl' _).al _).cellOf (box_at (w.alloc (.cells #[.int .i64 t.k, .int .i64 t.i, .string t.s, .slice At t.ar.length ct] 24)) #[.int .i64 u.k, .int .i64 u.i, .string u.s, .slice Au u.ar.length cu] 24 1 _ (w.heap.size + 1) (by simp) rfl)
  have bu2 : y.cell? ⟨w.heap.size + 1, 2, none⟩ = some (.string u.s) := by rw [← hy]; exact ((Ext.rfl' _).al _).cellOf (box_at (w.alloc (.cells #[.int .i64 t.k, .int .i64 t.i, .string t.s, .slice At t.ar.length ct] 24)) #[.int .i64 u.k, .int .i64 u.i, .string u.s, .slice Au u.ar.length cu] 24 2 _ (w.heap.size + 1) (by simp) rfl)
  have bu3 : y.cell? ⟨w.heap.size + 1, 3, none⟩ = some (.slice Au u.ar.length cu) := by rw [← hy]; exact ((Ext.rfl' _).al _).cellOf (box_at (w.alloc (.cells #[.int .i64 t.k, .int .i64 t.i, .string t.s, .slice At t.ar.length ct] 24)) #[.int .i64 u.k, .int .i64 u.i, .string u.s, .slice Au u.ar.length cu] 24 3 _ (w.heap.size + 1) (by simp) rfl)
  have bp0 : y.cell? ⟨w.heap.size + 1 + 1, 0, none⟩ = some (.int .i64 p.k) := by rw [← hy]; exact box_at ((w.alloc (.cells #[.int .i64 t.k, .int .i64 t.i, .string t.s, .slice At t.ar.length ct] 24)).alloc (.cells #[.int .i64 u.k, .int .i64 u.i, .string u.s, .slice Au u.ar.length cu] 24)) #[.int .i64 p.k, .int .i64 p.i, .string p.s, .slice Ap p.ar.length cp] 24 0 _ (w.heap.size + 1 + 1) (by simp) rfl
  have bp1 : y.cell? ⟨w.heap.size + 1 + 1, 1, none⟩ = some (.int .i64 p.i) := by rw [← hy]; exact box_at ((w.alloc (.cells #[.int .i64 t.k, .int .i64 t.i, .string t.s, .slice At t.ar.length ct] 24)).alloc (.cells #[.int .i64 u.k, .int .i64 u.i, .string u.s, .slice Au u.ar.length cu] 24)) #[.int .i64 p.k, .int .i64 p.i, .string p.s, .slice Ap p.ar.length cp] 24 1 _ (w.heap.size + 1 + 1) (by simp) rfl
  have bp2 : y.cell? ⟨w.heap.size + 1 + 1, 2, none⟩ = some (.string p.s) := by rw [← hy]; exact box_at ((w.alloc (.cells #[.int .i64 t.k, .int .i64 t.i, .string t.s, .slice At t.ar.length ct] 24)).alloc (.cells #[.int .i64 u.k, .int .i64 u.i, .string u.s, .slice Au u.ar.length cu] 24)) #[.int .i64 p.k, .int .i64 p.i, .string p.s, .slice Ap p.ar.length cp] 24 2 _ (w.heap.size + 1 + 1) (by simp) rfl
  have bp3 : y.cell? ⟨w.heap.size + 1 + 1, 3, none⟩ = some (.slice Ap p.ar.length cp) := by rw [← hy]; exact box_at ((w.alloc (.cells #[.int .i64 t.k, .int .i64 t.i, .string t.s, .slice At t.ar.length ct] 24)).alloc (.cells #[.int .i64 u.k, .int .i64 u.i, .string u.s, .slice Au u.ar.length cu] 24)) #[.int .i64 p.k, .int .i64 p.i, .string p.s, .slice Ap p.ar.length cp] 24 3 _ (w.heap.size + 1 + 1) (by simp) rfl
  clear ht hu hp
  have HG := hide (fun w' (e : Ext y w') ty => great_any [t, u, p] _ 600 _ (three_slice (HCt.out _ e) (HCu.out _ e) (HCp.out _ e) ty _ rfl) (by omega) (by omega))
  by_cases hgr : weighF 64 [t, u, p] 600 < 0
  · have hg : Hid (decide (weighF 64 [t, u, p] 600 < 0) = true) := Lib.hid (decide_eq_true hgr)
    clear hgr
    go_enter Try.func5, Try.ntmps5
    go_wp2_with fail
    refine (live_any _).mono ?_
    rintro e w1 ⟨v, rfl, hv, hE1⟩
    obtain rfl : v = _ := hv
    have zt0 := hE1.cellOf bt0
    have zt1 := hE1.cellOf bt1
    have zt2 := hE1.cellOf bt2
    have zt3 := hE1.cellOf bt3
    have zu0 := hE1.cellOf bu0
    have zu1 := hE1.cellOf bu1
    have zu2 := hE1.cellOf bu2
    have zu3 := hE1.cellOf bu3
    have zp0 := hE1.cellOf bp0
    have zp1 := hE1.cellOf bp1
    have zp2 := hE1.cellOf bp2
    have zp3 := hE1.cellOf bp3
    go_wp2_with fail
    refine ((unhide HG) _ hE1 _).mono ?_
    rintro e w2 ⟨v, rfl, hv, he2⟩
    obtain rfl : v = _ := hv
    rw [hg.out]
    have hE2 := (hE1.al _).tr he2
    clear he2
    clear zt0 zt1 zt2 zt3 zu0 zu1 zu2 zu3 zp0 zp1 zp2 zp3
    go_wp2
    go_ret
    exact Ret.mk rfl (hE.out.tr hE2)
  · have hw : Hid (wt t ≤ 600 ∧ wt u ≤ 600 ∧ wt p ≤ 600) := Lib.hid (by have := weigh_wt 64 [t, u, p] 600 (by omega); simp only [wtL] at this; omega)
    have hg : Hid (decide (weighF 64 [t, u, p] 600 < 0) = false) := Lib.hid (decide_eq_false hgr)
    clear hgr
    go_enter Try.func5, Try.ntmps5
    go_wp2_with fail
    refine (live_any _).mono ?_
    rintro e w1 ⟨v, rfl, hv, hE1⟩
    obtain rfl : v = _ := hv
    have zt0 := hE1.cellOf bt0
    have zt1 := hE1.cellOf bt1
    have zt2 := hE1.cellOf bt2
    have zt3 := hE1.cellOf bt3
    have zu0 := hE1.cellOf bu0
    have zu1 := hE1.cellOf bu1
    have zu2 := hE1.cellOf bu2
    have zu3 := hE1.cellOf bu3
    have zp0 := hE1.cellOf bp0
    have zp1 := hE1.cellOf bp1
    have zp2 := hE1.cellOf bp2
    have zp3 := hE1.cellOf bp3
    go_wp2_with fail
    refine ((unhide HG) _ hE1 _).mono ?_
    rintro e w2 ⟨v, rfl, hv, he2⟩
    obtain rfl : v = _ := hv
    rw [hg.out]
    have hE2 := (hE1.al _).tr he2
    clear he2
    clear zt0 zt1 zt2 zt3 zu0 zu1 zu2 zu3 zp0 zp1 zp2 zp3
    go_wp2_with fail
    have ct0 := hE2.cellOf bt0
    have ct1 := hE2.cellOf bt1
    have ct2 := hE2.cellOf bt2
    have ct3 := hE2.cellOf bt3
    have cu0 := hE2.cellOf bu0
    have cu1 := hE2.cellOf bu1
    have cu2 := hE2.cellOf bu2
    have cu3 := hE2.cellOf bu3
    have cp0 := hE2.cellOf bp0
    have cp1 := hE2.cellOf bp1
    have cp2 := hE2.cellOf bp2
    have cp3 := hE2.cellOf bp3
    refine wp_region_sched [(0, true), (1, true), (3, true), (4, true), (6, true), (7, true), (2, false), (5, false), (8, false), (9, true), (10, true), (11, true)] (by kernel_rfl) (by kernel_rfl) (Ext w2) (Ext.rfl' w2).dr ?_
    iterate 6 (refine sQ rfl rfl ?_ ?_ ?_; rotate_left; (· (intro w' hw'; have zt0 := hw'.cellOf ct0; have zt1 := hw'.cellOf ct1; have zt2 := hw'.cellOf ct2; have zt3 := hw'.cellOf ct3; have zu0 := hw'.cellOf cu0; have zu1 := hw'.cellOf cu1; have zu2 := hw'.cellOf cu2; have zu3 := hw'.cellOf cu3; have zp0 := hw'.cellOf cp0; have zp1 := hw'.cellOf cp1; have zp2 := hw'.cellOf cp2; have zp3 := hw'.cellOf cp3; go_simp; try with_reducible rfl)); try simp only [Act.put, List.setIfInBounds_toArray, List.set_cons_succ, List.set_cons_zero])
    refine sL rfl rfl ?_
    go_wp2_with fail
    refine (compare_any 600 (by omega) t u _ _ _ hw.out.1 (HCt.out _ (hE2.tr (Ext.rfl' w2).dr)) (HCu.out _ (hE2.tr (Ext.rfl' w2).dr))).mono ?_
    rintro e w3 ⟨v, rfl, hv, he3⟩
    obtain rfl : v = _ := hv
    rw [HX.out]
    have hX3 := (Ext.rfl' w2).dr.tr he3
    clear he3
    go_wp2_with fail
    refine SQ.mk hX3 ?_
    refine sL rfl rfl ?_
    go_wp2_with fail
    refine (compare_any 600 (by omega) u p _ _ _ hw.out.2.1 (HCu.out _ (hE2.tr hX3)) (HCp.out _ (hE2.tr hX3))).mono ?_
    rintro e w4 ⟨v, rfl, hv, he4⟩
    obtain rfl : v = _ := hv
    rw [HY.out]
    have hX4 := hX3.tr he4
    clear he4
    go_wp2_with fail
    refine SQ.mk hX4 ?_
    refine sL rfl rfl ?_
    go_wp2_with fail
    refine (compare_any 600 (by omega) t p _ _ _ hw.out.1 (HCt.out _ (hE2.tr hX4)) (HCp.out _ (hE2.tr hX4))).mono ?_
    rintro e w5 ⟨v, rfl, hv, he5⟩
    obtain rfl : v = _ := hv
    rw [HZ.out]
    have hX5 := hX4.tr he5
    clear he5
    go_wp2_with fail
    refine SQ.mk hX5 ?_
    iterate 3 (refine sQ rfl rfl ?_ ?_ ?_; rotate_left; (· (intro w' hw'; have zt0 := hw'.cellOf ct0; have zt1 := hw'.cellOf ct1; have zt2 := hw'.cellOf ct2; have zt3 := hw'.cellOf ct3; have zu0 := hw'.cellOf cu0; have zu1 := hw'.cellOf cu1; have zu2 := hw'.cellOf cu2; have zu3 := hw'.cellOf cu3; have zp0 := hw'.cellOf cp0; have zp1 := hw'.cellOf cp1; have zp2 := hw'.cellOf cp2; have zp3 := hw'.cellOf cp3; go_simp; try with_reducible rfl)); try simp only [Act.put, List.setIfInBounds_toArray, List.set_cons_succ, List.set_cons_zero])
    refine sE ?_
    have hE5 := hE2.tr hX5
    clear ct0 ct1 ct2 ct3 cu0 cu1 cu2 cu3 cp0 cp1 cp2 cp3 hX3 hX4 hX5
    have zt0 := hE5.cellOf bt0
    have zt1 := hE5.cellOf bt1
    have zt2 := hE5.cellOf bt2
    have zt3 := hE5.cellOf bt3
    have zu0 := hE5.cellOf bu0
    have zu1 := hE5.cellOf bu1
    have zu2 := hE5.cellOf bu2
    have zu3 := hE5.cellOf bu3
    have zp0 := hE5.cellOf bp0
    have zp1 := hE5.cellOf bp1
    have zp2 := hE5.cellOf bp2
    have zp3 := hE5.cellOf bp3
    go_wp2_with fail
    refine (compare_any 600 (by omega) u t _ _ _ hw.out.2.1 (HCu.out _ (hE5)) (HCt.out _ (hE5))).mono ?_
    rintro e w6 ⟨v, rfl, hv, he6⟩
    obtain rfl : v = _ := hv
    rw [HN.out]
    have hE6 := (hE5).tr he6
    clear he6
    clear zt0 zt1 zt2 zt3 zu0 zu1 zu2 zu3 zp0 zp1 zp2 zp3
    have zt0 := hE6.cellOf bt0
    have zt1 := hE6.cellOf bt1
    have zt2 := hE6.cellOf bt2
    have zt3 := hE6.cellOf bt3
    have zu0 := hE6.cellOf bu0
    have zu1 := hE6.cellOf bu1
    have zu2 := hE6.cellOf bu2
    have zu3 := hE6.cellOf bu3
    have zp0 := hE6.cellOf bp0
    have zp1 := hE6.cellOf bp1
    have zp2 := hE6.cellOf bp2
    have zp3 := hE6.cellOf bp3
    go_wp2_with fail
    refine (compare_any 600 (by omega) t t _ _ _ hw.out.1 (HCt.out _ (hE6)) (HCt.out _ (hE6))).mono ?_
    rintro e w7 ⟨v, rfl, hv, he7⟩
    obtain rfl : v = _ := hv
    rw [HO.out]
    have hE7 := (hE6).tr he7
    clear he7
    clear zt0 zt1 zt2 zt3 zu0 zu1 zu2 zu3 zp0 zp1 zp2 zp3
    have zt0 := hE7.cellOf bt0
    have zt1 := hE7.cellOf bt1
    have zt2 := hE7.cellOf bt2
    have zt3 := hE7.cellOf bt3
    have zu0 := hE7.cellOf bu0
    have zu1 := hE7.cellOf bu1
    have zu2 := hE7.cellOf bu2
    have zu3 := hE7.cellOf bu3
    have zp0 := hE7.cellOf bp0
    have zp1 := hE7.cellOf bp1
    have zp2 := hE7.cellOf bp2
    have zp3 := hE7.cellOf bp3
    go_wp2_with fail
    refine (same_any 600 (by omega) p p _ _ _ hw.out.2.2 (HCp.out _ (hE7)) (HCp.out _ (hE7))).mono ?_
    rintro e w8 ⟨v, rfl, hv, he8⟩
    obtain rfl : v = _ := hv
    rw [HP.out]
    have hE8 := (hE7).tr he8
    clear he8
    clear zt0 zt1 zt2 zt3 zu0 zu1 zu2 zu3 zp0 zp1 zp2 zp3
    have zt0 := hE8.cellOf bt0
    have zt1 := hE8.cellOf bt1
    have zt2 := hE8.cellOf bt2
    have zt3 := hE8.cellOf bt3
    have zu0 := hE8.cellOf bu0
    have zu1 := hE8.cellOf bu1
    have zu2 := hE8.cellOf bu2
    have zu3 := hE8.cellOf bu3
    have zp0 := hE8.cellOf bp0
    have zp1 := hE8.cellOf bp1
    have zp2 := hE8.cellOf bp2
    have zp3 := hE8.cellOf bp3
    go_wp2_with fail
    refine (same_any 600 (by omega) t u _ _ _ hw.out.1 (HCt.out _ (hE8)) (HCu.out _ (hE8))).mono ?_
    rintro e w9 ⟨v, rfl, hv, he9⟩
    obtain rfl : v = _ := hv
    rw [HS.out]
    have hE9 := (hE8).tr he9
    clear he9
    clear zt0 zt1 zt2 zt3 zu0 zu1 zu2 zu3 zp0 zp1 zp2 zp3
    have zt0 := hE9.cellOf bt0
    have zt1 := hE9.cellOf bt1
    have zt2 := hE9.cellOf bt2
    have zt3 := hE9.cellOf bt3
    have zu0 := hE9.cellOf bu0
    have zu1 := hE9.cellOf bu1
    have zu2 := hE9.cellOf bu2
    have zu3 := hE9.cellOf bu3
    have zp0 := hE9.cellOf bp0
    have zp1 := hE9.cellOf bp1
    have zp2 := hE9.cellOf bp2
    have zp3 := hE9.cellOf bp3
    go_wp2_with fail
    all_goals try (exfalso; have := HT.out; unfold Tri at this; omega)
    all_goals
      clear zt0 zt1 zt2 zt3 zu0 zu1 zu2 zu3 zp0 zp1 zp2 zp3
      have ct0 := hE9.cellOf bt0
      have ct1 := hE9.cellOf bt1
      have ct2 := hE9.cellOf bt2
      have ct3 := hE9.cellOf bt3
      have cu0 := hE9.cellOf bu0
      have cu1 := hE9.cellOf bu1
      have cu2 := hE9.cellOf bu2
      have cu3 := hE9.cellOf bu3
      have cp0 := hE9.cellOf bp0
      have cp1 := hE9.cellOf bp1
      have cp2 := hE9.cellOf bp2
      have cp3 := hE9.cellOf bp3
      refine wp_region_sched [(0, true), (1, true), (2, true), (3, true), (4, true), (5, true), (6, true), (7, true), (8, true), (9, true), (10, true), (11, true), (13, true), (14, true), (12, false), (15, false), (16, true), (17, true), (18, true), (19, true)] (by kernel_rfl) (by kernel_rfl) (Ext w9) (Ext.rfl' w9).dr ?_
      iterate 10 (refine sQ rfl rfl ?_ ?_ ?_; rotate_left; (· (intro w' hw'; have zt0 := hw'.cellOf ct0; have zt1 := hw'.cellOf ct1; have zt2 := hw'.cellOf ct2; have zt3 := hw'.cellOf ct3; have zu0 := hw'.cellOf cu0; have zu1 := hw'.cellOf cu1; have zu2 := hw'.cellOf cu2; have zu3 := hw'.cellOf cu3; have zp0 := hw'.cellOf cp0; have zp1 := hw'.cellOf cp1; have zp2 := hw'.cellOf cp2; have zp3 := hw'.cellOf cp3; go_simp; try with_reducible rfl)); try simp only [Act.put, List.setIfInBounds_toArray, List.set_cons_succ, List.set_cons_zero])
      iterate 4 (refine sN rfl rfl ?_; simp only [Act.put, List.setIfInBounds_toArray, List.set_cons_succ, List.set_cons_zero])
      (refine sM rfl rfl ?_; simp only [Act.put, List.setIfInBounds_toArray, List.set_cons_succ, List.set_cons_zero])
      (refine sM rfl rfl ?_; simp only [Act.put, List.setIfInBounds_toArray, List.set_cons_succ, List.set_cons_zero])
      iterate 1 (refine sN rfl rfl ?_; simp only [Act.put, List.setIfInBounds_toArray, List.set_cons_succ, List.set_cons_zero])
      iterate 3 (refine sQ rfl rfl ?_ ?_ ?_; rotate_left; (· (intro w' hw'; have zt0 := hw'.cellOf ct0; have zt1 := hw'.cellOf ct1; have zt2 := hw'.cellOf ct2; have zt3 := hw'.cellOf ct3; have zu0 := hw'.cellOf cu0; have zu1 := hw'.cellOf cu1; have zu2 := hw'.cellOf cu2; have zu3 := hw'.cellOf cu3; have zp0 := hw'.cellOf cp0; have zp1 := hw'.cellOf cp1; have zp2 := hw'.cellOf cp2; have zp3 := hw'.cellOf cp3; go_simp; try with_reducible rfl)); try simp only [Act.put, List.setIfInBounds_toArray, List.set_cons_succ, List.set_cons_zero])
      refine sE ?_
      go_wp2
      go_ret
      exact Ret.mk rfl ((hE.out.tr hE9).tr (Ext.rfl' w9).dr)
theorem walk (t u p : T) (v x r : Value) (w : World) (ht : VT w t v) (hu : VT w u x) (hp : VT w p r) : Calls Try.prog 5 #[v, x, r] w (Ret w (Is (.bool true))) := by
  have h := cmp_sgn t u
  unfold Sgn at h
  by_cases h1 : cmpT t u = -1
  · exact walk_lt t u p (Lib.hid h1) _ _ (Lib.hid rfl) (Lib.hid rfl) v x r w ht hu hp
  by_cases h2 : cmpT t u = 0
  · exact walk_eq t u p (Lib.hid h2) _ _ (Lib.hid rfl) (Lib.hid rfl) v x r w ht hu hp
  · exact walk_gt t u p (Lib.hid (by omega)) _ _ (Lib.hid rfl) (Lib.hid rfl) v x r w ht hu hp

theorem holds : Holds 5 Try.f5 := by
  intro H enc W base args ds p hval hA
  rw [Try.params5] at hA hval
  obtain ⟨v0, vs0, d0, ds0, p0, q0, hargs, rfl, rfl, h0, r0⟩ := trodAll_cons hA
  obtain ⟨v1, vs1, d1, ds1, p1, q1, rfl, rfl, rfl, h1, r1⟩ := trodAll_cons r0
  obtain ⟨v2, vs2, d2, ds2, p2, q2, rfl, rfl, rfl, h2, r2⟩ := trodAll_cons r1
  obtain ⟨rfl, rfl, rfl⟩ := trodAll_nil r2
  obtain rfl : args = #[v0, v1, v2] := by cases args; simp_all
  obtain ⟨a0, g0⟩ := open_term (hval 0 24 v0 rfl rfl) h0
  obtain ⟨a1, g1⟩ := open_term (hval 1 24 v1 rfl rfl) h1
  obtain ⟨a2, g2⟩ := open_term (hval 2 24 v2 rfl rfl) h2
  exact walk a0 a1 a2 v0 v1 v2 W g0 g1 g2

set_option maxRecDepth 100000 in
theorem lifted (os : Os) (started : os.Started) (H : Type) (enc : TypeId × Value → H) :
    ReturnsInHanded {} Try.checked os 5 .any (Rows.termOrderSpec.pre6 enc Try.prog Try.f5 Rows.termOrderRow.domain false) (Rows.termOrderSpec.post enc Try.prog Try.f5 false true false false) := by
  refine returnsInHanded_of_change (C := Try.checked) own started (by kernel_rfl) Try.func5
    (ChangeSpec.witness6 (enc := enc) (C := Try.checked) false ⟨#[], #[.agg #[.int .i64 0, .int .i64 0, .string ⟨#[]⟩, .slice none 0 0], .agg #[.int .i64 0, .int .i64 0, .string ⟨#[]⟩, .slice none 0 0], .agg #[.int .i64 0, .int .i64 0, .string ⟨#[]⟩, .slice none 0 0]], []⟩ 8 (by kernel_rfl) (by kernel_rfl) (by kernel_rfl) (by kernel_rfl)) ?_
  intro W base args ds gs before hval hW _ _
  exact law_contract holds rfl (by kernel_rfl) rfl rfl (fun H ds h => by
    match ds, h with
    | [_, _, _], _ => rfl) W base args ds gs before hval hW

theorem over : Rows.termOrderRow.holds Try.pinned (OpenSpec.ofChange Rows.termOrderSpec) :=
  OpenClaim.holds_of_wide 5 Try.f5 rfl rfl rfl rfl rfl rfl rfl ⟨rfl, rfl, rfl, rfl, rfl⟩ rfl rfl rfl rfl rfl (by kernel_rfl) Try.func5 (by kernel_rfl)
    (of_decide_eq_true (by kernel_rfl)) (by unfold Func.isWrapper; first | (rw [if_pos (by decide +kernel)]; kernel_rfl) | (rw [if_neg (by decide +kernel)]; exact ⟨rfl, rfl⟩))
    (fun os started H enc _ => lifted os started H enc)

theorem proved : Rows.TermOrderSaid :=
  over
#print axioms proved
end Go.Proofs.Ytcjbageaiafbmaa.termOrder
