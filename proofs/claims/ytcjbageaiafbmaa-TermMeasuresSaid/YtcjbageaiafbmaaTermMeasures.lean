/-
  Size, Depth, Vars, Ground and Occurs agree with their definitions: the law TermMeasures returns true for every term and number. No condition.
-/
import Derived.Test.YtcjbageaiafbmaaOpenT
import Derived.Test.YtcjbageaiafbmaaLive
import Derived.Test.YtcjbageaiafbmaaSched
import Derived.Test.YtcjbageaiafbmaaVarsR
import Derived.Test.YtcjbageaiafbmaaOccurs
namespace Go.Proofs.Ytcjbageaiafbmaa.termMeasures
open Go.ChangeShapes Go.WideShapes Go.ChangeAt Go.RowKit
set_option linter.unusedVariables false

set_option maxHeartbeats 2000000 in
theorem walk (t : T) (n : Int) (v : Value) (w : World) (ht : VT w t v) (hi : I64 n) : Calls Try.prog 9 #[v, .int .i64 n] w (Ret w (Is (.bool true))) := by
  obtain ⟨st, rfl, hst, -⟩ := ht.open_
  obtain ⟨At, ct, xst, rfl, -⟩ := hst
  obtain ⟨y, hy⟩ : ∃ y, (w.alloc (.cells #[.int .i64 t.k, .int .i64 t.i, .string t.s, .slice At t.ar.length ct] 24)) = y := ⟨_, rfl⟩
  have hE : Hid (Ext w y) := Lib.hid (by rw [← hy]; exact ((Ext.rfl' w).al _))
  have HCt : Hid (∀ w', Ext y w' → VT w' t (.agg #[.int .i64 t.k, .int .i64 t.i, .string t.s, .slice At t.ar.length ct])) := Lib.hid fun w' e => ht.ext (hE.out.tr e)
  have bt0 : y.cell? ⟨w.heap.size, 0, none⟩ = some (.int .i64 t.k) := by rw [← hy]; exact box_at w #[.int .i64 t.k, .int .i64 t.i, .string t.s, .slice At t.ar.length ct] 24 0 _ (w.heap.size) (by simp) rfl
  have bt1 : y.cell? ⟨w.heap.size, 1, none⟩ = some (.int .i64 t.i) := by rw [← hy]; exact box_at w #[.int .i64 t.k, .int .i64 t.i, .string t.s, .slice At t.ar.length ct] 24 1 _ (w.heap.size) (by simp) rfl
  have bt2 : y.cell? ⟨w.heap.size, 2, none⟩ = some (.string t.s) := by rw [← hy]; exact box_at w #[.int .i64 t.k, .int .i64 t.i, .string t.s, .slice At t.ar.length ct] 24 2 _ (w.heap.size) (by simp) rfl
  have bt3 : y.cell? ⟨w.heap.size, 3, none⟩ = some (.slice At t.ar.length ct) := by rw [← hy]; exact box_at w #[.int .i64 t.k, .int .i64 t.i, .string t.s, .slice At t.ar.length ct] 24 3 _ (w.heap.size) (by simp) rfl
  clear ht
  clear hi
  have HG := hide (fun ty => great_any [t] _ 600 _ (one_slice (HCt.out _ (Ext.rfl' y)) ty _ rfl) (by omega) (by omega))
  by_cases hgr : weighF 64 [t] 600 < 0
  · have hg : Hid (decide (weighF 64 [t] 600 < 0) = true) := Lib.hid (decide_eq_true hgr)
    clear hgr
    go_enter Try.func9, Try.ntmps9
    go_wp2_with fail
    refine ((unhide HG) _).mono ?_
    rintro e w1 ⟨v, rfl, hv, he1⟩
    obtain rfl : v = _ := hv
    rw [hg.out]
    have hE1 := ((Ext.rfl' y).al _).tr he1
    clear he1
    go_wp2_with fail
    go_ret
    exact Ret.mk rfl (hE.out.tr hE1)
  · have hw : Hid (wt t ≤ 600) := Lib.hid (by have := weigh_wt 64 [t] 600 (by omega); simp only [wtL] at this; omega)
    have hg : Hid (decide (weighF 64 [t] 600 < 0) = false) := Lib.hid (decide_eq_false hgr)
    have HL : Hid ((uniq [] (occT t)).length ≤ 100000000) := Lib.hid (by have := uniq_len (occT t) []; have := occ_wt t; have := hw.out; simp at *; omega)
    clear hgr
    go_enter Try.func9, Try.ntmps9
    go_wp2_with fail
    refine ((unhide HG) _).mono ?_
    rintro e w1 ⟨v, rfl, hv, he1⟩
    obtain rfl : v = _ := hv
    rw [hg.out]
    have hE1 := ((Ext.rfl' y).al _).tr he1
    clear he1
    go_wp2_with fail
    have ct0 := hE1.cellOf bt0
    have ct1 := hE1.cellOf bt1
    have ct2 := hE1.cellOf bt2
    have ct3 := hE1.cellOf bt3
    refine wp_region_sched [(0, true), (2, true), (1, false), (3, false), (4, true), (5, true), (6, true), (8, true), (7, false), (9, false), (10, true), (11, true), (12, true), (13, true), (15, true), (14, false), (16, false), (17, false), (18, true), (19, true)] (by kernel_rfl) (by kernel_rfl) (Ext w1) (Ext.rfl' w1).dr ?_
    iterate 2 (refine sQ rfl rfl ?_ ?_ ?_; rotate_left; (· (intro w' hw'; have zt0 := hw'.cellOf ct0; have zt1 := hw'.cellOf ct1; have zt2 := hw'.cellOf ct2; have zt3 := hw'.cellOf ct3; go_simp; try with_reducible rfl)); try simp only [Act.put, List.setIfInBounds_toArray, List.set_cons_succ, List.set_cons_zero])
    refine sL rfl rfl ?_
    go_wp2_with fail
    refine (size_any 600 t _ _ hw.out (by omega) (HCt.out _ (hE1.tr ((Ext.rfl' w1).dr)))).mono ?_
    rintro e w2 ⟨v, rfl, hv, he2⟩
    obtain rfl : v = _ := hv
    skip
    have hX2 := ((Ext.rfl' w1).dr).tr he2
    clear he2
    go_wp2_with fail
    refine SQ.mk (hX2) ?_
    refine sL rfl rfl ?_
    go_wp2_with fail
    refine (refSize_any 600 t _ _ hw.out (by omega) (HCt.out _ (hE1.tr (hX2)))).mono ?_
    rintro e w3 ⟨v, rfl, hv, he3⟩
    obtain rfl : v = _ := hv
    skip
    have hX3 := (hX2).tr he3
    clear he3
    go_wp2_with fail
    refine SQ.mk (hX3) ?_
    iterate 4 (refine sQ rfl rfl ?_ ?_ ?_; rotate_left; (· (intro w' hw'; have zt0 := hw'.cellOf ct0; have zt1 := hw'.cellOf ct1; have zt2 := hw'.cellOf ct2; have zt3 := hw'.cellOf ct3; go_simp; try with_reducible rfl)); try simp only [Act.put, List.setIfInBounds_toArray, List.set_cons_succ, List.set_cons_zero])
    refine sL rfl rfl ?_
    go_wp2_with fail
    refine (depth_any 600 t _ _ hw.out (by omega) (HCt.out _ (hE1.tr (hX3)))).mono ?_
    rintro e w4 ⟨v, rfl, hv, he4⟩
    obtain rfl : v = _ := hv
    skip
    have hX4 := (hX3).tr he4
    clear he4
    go_wp2_with fail
    refine SQ.mk (hX4) ?_
    refine sL rfl rfl ?_
    go_wp2_with fail
    refine (refDepth_any 600 t _ _ hw.out (by omega) (HCt.out _ (hE1.tr (hX4)))).mono ?_
    rintro e w5 ⟨v, rfl, hv, he5⟩
    obtain rfl : v = _ := hv
    skip
    have hX5 := (hX4).tr he5
    clear he5
    go_wp2_with fail
    refine SQ.mk (hX5) ?_
    iterate 5 (refine sQ rfl rfl ?_ ?_ ?_; rotate_left; (· (intro w' hw'; have zt0 := hw'.cellOf ct0; have zt1 := hw'.cellOf ct1; have zt2 := hw'.cellOf ct2; have zt3 := hw'.cellOf ct3; go_simp; try with_reducible rfl)); try simp only [Act.put, List.setIfInBounds_toArray, List.set_cons_succ, List.set_cons_zero])
    refine sL rfl rfl ?_
    go_wp2_with fail
    refine (varsP_any 600 (by omega) t _ _ hw.out (HCt.out _ (hE1.tr (hX5)))).mono ?_
    rintro e w6 ⟨v, rfl, hv, he6⟩
    have hr6 := hide hv
    obtain ⟨A6, c6, rfl, -⟩ := hv
    skip
    have hX6 := (hX5).tr he6
    clear he6
    go_wp2_with fail
    refine SQ.mk (hX6) ?_
    refine sL rfl rfl ?_
    go_wp2_with fail
    refine (refVars_any 600 (by omega) t _ _ hw.out (HCt.out _ (hE1.tr (hX6)))).mono ?_
    rintro e w7 ⟨v, rfl, hv, he7⟩
    have hr7 := hide hv
    obtain ⟨A7, c7, rfl, -⟩ := hv
    have hr6 := hide ((unhide hr6).ext he7)
    skip
    have hX7 := (hX6).tr he7
    clear he7
    go_wp2_with fail
    refine SQ.mk (hX7) ?_
    refine sL rfl rfl ?_
    go_wp2_with fail
    refine (sameInts_any _ _ _ _ _ HL.out HL.out (unhide hr6) (unhide hr7)).mono ?_
    rintro e w8 ⟨v, rfl, hv, he8⟩
    obtain rfl : v = _ := hv
    rw [decide_eq_true rfl]
    skip
    have hX8 := (hX7).tr he8
    clear he8
    go_wp2_with fail
    refine SQ.mk (hX8) ?_
    iterate 2 (refine sQ rfl rfl ?_ ?_ ?_; rotate_left; (· (intro w' hw'; have zt0 := hw'.cellOf ct0; have zt1 := hw'.cellOf ct1; have zt2 := hw'.cellOf ct2; have zt3 := hw'.cellOf ct3; go_simp; try with_reducible rfl)); try simp only [Act.put, List.setIfInBounds_toArray, List.set_cons_succ, List.set_cons_zero])
    refine sE ?_
    have hE8 := hE1.tr hX8
    clear hX2 hX3 hX4 hX5 hX6 hX7 hX8 hr6 hr7 ct0 ct1 ct2 ct3
    go_wp2_with fail
    have ct0 := hE8.cellOf bt0
    have ct1 := hE8.cellOf bt1
    have ct2 := hE8.cellOf bt2
    have ct3 := hE8.cellOf bt3
    refine wp_region_sched [(0, true), (2, true), (1, false), (3, false), (4, true), (5, true), (6, true), (7, true), (9, true), (10, true), (8, false), (11, false), (12, true), (13, true), (14, true), (15, false), (16, true), (17, true)] (by kernel_rfl) (by kernel_rfl) (Ext w8) (Ext.rfl' w8).dr ?_
    iterate 2 (refine sQ rfl rfl ?_ ?_ ?_; rotate_left; (· (intro w' hw'; have zt0 := hw'.cellOf ct0; have zt1 := hw'.cellOf ct1; have zt2 := hw'.cellOf ct2; have zt3 := hw'.cellOf ct3; go_simp; try with_reducible rfl)); try simp only [Act.put, List.setIfInBounds_toArray, List.set_cons_succ, List.set_cons_zero])
    refine sL rfl rfl ?_
    go_wp2_with fail
    refine (ground_any 600 (by omega) t _ _ hw.out (HCt.out _ (hE8.tr ((Ext.rfl' w8).dr)))).mono ?_
    rintro e w9 ⟨v, rfl, hv, he9⟩
    obtain rfl : v = _ := hv
    skip
    have hX9 := ((Ext.rfl' w8).dr).tr he9
    clear he9
    go_wp2_with fail
    refine SQ.mk (hX9) ?_
    refine sL rfl rfl ?_
    go_wp2_with fail
    refine (refGround_any 600 (by omega) t _ _ hw.out (HCt.out _ (hE8.tr (hX9)))).mono ?_
    rintro e w10 ⟨v, rfl, hv, he10⟩
    obtain rfl : v = _ := hv
    skip
    have hX10 := (hX9).tr he10
    clear he10
    go_wp2_with fail
    refine SQ.mk (hX10) ?_
    iterate 6 (refine sQ rfl rfl ?_ ?_ ?_; rotate_left; (· (intro w' hw'; have zt0 := hw'.cellOf ct0; have zt1 := hw'.cellOf ct1; have zt2 := hw'.cellOf ct2; have zt3 := hw'.cellOf ct3; go_simp; try with_reducible rfl)); try simp only [Act.put, List.setIfInBounds_toArray, List.set_cons_succ, List.set_cons_zero])
    refine sL rfl rfl ?_
    go_wp2_with fail
    refine (occurs_any 600 (by omega) n t _ _ hw.out (HCt.out _ (hE8.tr (hX10)))).mono ?_
    rintro e w11 ⟨v, rfl, hv, he11⟩
    obtain rfl : v = _ := hv
    skip
    have hX11 := (hX10).tr he11
    clear he11
    go_wp2_with fail
    refine SQ.mk (hX11) ?_
    refine sL rfl rfl ?_
    go_wp2_with fail
    refine (refOccurs_any 600 (by omega) n t _ _ hw.out (HCt.out _ (hE8.tr (hX11)))).mono ?_
    rintro e w12 ⟨v, rfl, hv, he12⟩
    obtain rfl : v = _ := hv
    skip
    have hX12 := (hX11).tr he12
    clear he12
    go_wp2_with fail
    refine SQ.mk (hX12) ?_
    iterate 3 (refine sQ rfl rfl ?_ ?_ ?_; rotate_left; (· (intro w' hw'; have zt0 := hw'.cellOf ct0; have zt1 := hw'.cellOf ct1; have zt2 := hw'.cellOf ct2; have zt3 := hw'.cellOf ct3; go_simp; try with_reducible rfl)); try simp only [Act.put, List.setIfInBounds_toArray, List.set_cons_succ, List.set_cons_zero])
    refine sL rfl rfl ?_
    go_wp2_with fail
    refine (live_any _).mono ?_
    rintro e w13 ⟨v, rfl, hv, he13⟩
    obtain rfl : v = _ := hv
    skip
    have hX13 := (hX12).tr he13
    clear he13
    go_wp2_with fail
    refine SQ.mk (hX13) ?_
    iterate 2 (refine sQ rfl rfl ?_ ?_ ?_; rotate_left; (· (intro w' hw'; have zt0 := hw'.cellOf ct0; have zt1 := hw'.cellOf ct1; have zt2 := hw'.cellOf ct2; have zt3 := hw'.cellOf ct3; go_simp; try with_reducible rfl)); try simp only [Act.put, List.setIfInBounds_toArray, List.set_cons_succ, List.set_cons_zero])
    refine sE ?_
    go_wp2
    go_ret
    exact Ret.mk rfl ((hE.out.tr hE8).tr hX13)

theorem holds : Holds 9 Try.f9 := by
  intro H enc W base args ds p hval hA
  rw [Try.params9] at hA hval
  obtain ⟨v0, vs0, d0, ds0, p0, q0, hargs, rfl, rfl, h0, r0⟩ := trodAll_cons hA
  obtain ⟨v1, vs1, d1, ds1, p1, q1, rfl, rfl, rfl, h1, r1⟩ := trodAll_cons r0
  obtain ⟨rfl, rfl, rfl⟩ := trodAll_nil r1
  obtain rfl : args = #[v0, v1] := by cases args; simp_all
  obtain ⟨a0, g0⟩ := open_term (hval 0 24 v0 rfl rfl) h0
  obtain ⟨a1, rfl, rfl, rfl, w1⟩ := open_int Try.underlying3 (hval 1 3 v1 rfl rfl) h1
  exact walk a0 a1 v0 W g0 (i64_of w1)

set_option maxRecDepth 100000 in
theorem lifted (os : Os) (started : os.Started) (H : Type) (enc : TypeId × Value → H) :
    ReturnsInHanded {} Try.checked os 9 .any (Rows.termMeasuresSpec.pre6 enc Try.prog Try.f9 Rows.termMeasuresRow.domain false) (Rows.termMeasuresSpec.post enc Try.prog Try.f9 false true false false) := by
  refine returnsInHanded_of_change (C := Try.checked) own started (by kernel_rfl) Try.func9
    (ChangeSpec.witness6 (enc := enc) (C := Try.checked) false ⟨#[], #[.agg #[.int .i64 0, .int .i64 0, .string ⟨#[]⟩, .slice none 0 0], .int .i64 0], []⟩ 8 (by kernel_rfl) (by kernel_rfl) (by kernel_rfl) (by kernel_rfl)) ?_
  intro W base args ds gs before hval hW _ _
  exact law_contract holds rfl (by kernel_rfl) rfl rfl (fun H ds h => by
    match ds, h with
    | [_, _], _ => rfl) W base args ds gs before hval hW

theorem over : Rows.termMeasuresRow.holds Try.pinned (OpenSpec.ofChange Rows.termMeasuresSpec) :=
  OpenClaim.holds_of_wide 9 Try.f9 rfl rfl rfl rfl rfl rfl rfl ⟨rfl, rfl, rfl, rfl, rfl⟩ rfl rfl rfl rfl rfl (by kernel_rfl) Try.func9 (by kernel_rfl)
    (of_decide_eq_true (by kernel_rfl)) (by unfold Func.isWrapper; first | (rw [if_pos (by decide +kernel)]; kernel_rfl) | (rw [if_neg (by decide +kernel)]; exact ⟨rfl, rfl⟩))
    (fun os started H enc _ => lifted os started H enc)

theorem proved : Rows.TermMeasuresSaid :=
  over
#print axioms proved
end Go.Proofs.Ytcjbageaiafbmaa.termMeasures
