/-
  Right reports validity exactly: the law TermRight returns true for every term. No condition.
-/
import Derived.Test.YtcjbageaiafbmaaOpenT
import Derived.Test.YtcjbageaiafbmaaLive
import Derived.Test.YtcjbageaiafbmaaSched
namespace Go.Proofs.Ytcjbageaiafbmaa.termRight
open Go.ChangeShapes Go.WideShapes Go.ChangeAt Go.RowKit
set_option linter.unusedVariables false

set_option maxHeartbeats 1000000 in
theorem walk (t : T) (v : Value) (w : World) (ht : VT w t v) : Calls Try.prog 3 #[v] w (Ret w (Is (.bool true))) := by
  obtain ⟨st, rfl, hst, -⟩ := ht.open_
  obtain ⟨At, ct, xst, rfl, -⟩ := hst
  obtain ⟨y, hy⟩ : ∃ y, (w.alloc (.cells #[.int .i64 t.k, .int .i64 t.i, .string t.s, .slice At t.ar.length ct] 24)) = y := ⟨_, rfl⟩
  have hE : Hid (Ext w y) := Lib.hid (by rw [← hy]; exact ((Ext.rfl' w).al _))
  have HCt : Hid (∀ w', Ext y w' → VT w' t (.agg #[.int .i64 t.k, .int .i64 t.i, .string t.s, .slice At t.ar.length ct])) := Lib.hid fun w' e => ht.ext (hE.out.tr e)
  have bt0 : y.cell? ⟨w.heap.size, 0, none⟩ = some (.int .i64 t.k) := by rw [← hy]; exact box_at w #[.int .i64 t.k, .int .i64 t.i, .string t.s, .slice At t.ar.length ct] 24 0 _ (w.heap.size) (by simp) rfl
  have bt1 : y.cell? ⟨w.heap.size, 1, none⟩ = some (.int .i64 t.i) := by rw [← hy]; exact box_at w #[.int .i64 t.k, .int .i64 t.i, .string t.s, .slice At t.ar.length ct] 24 1 _ (w.heap.size) (by simp) rfl
  have bt2 : y.cell? ⟨w.heap.size, 2, none⟩ = some (.string t.s) := by rw [← hy]; exact box_at w #[.int .i64 t.k, .int .i64 t.i, .string t.s, .slice At t.ar.length ct] 24 2 _ (w.heap.size) (by simp) rfl
  have bt3 : y.cell? ⟨w.heap.size, 3, none⟩ = some (.slice At t.ar.length ct) := by rw [← hy]; exact box_at w #[.int .i64 t.k, .int .i64 t.i, .string t.s, .slice At t.ar.length ct] 24 3 _ (w.heap.size) (by simp) rfl
  clear ht
  by_cases hgr : weighF 64 [t] 600 < 0
  · have hg : Hid (decide (weighF 64 [t] 600 < 0) = true) := Lib.hid (decide_eq_true hgr)
    clear hgr
    go_enter Try.func3, Try.ntmps3
    go_wp2_with fail
    refine wp_region_sched [(0, true), (1, false), (2, false), (3, true), (4, true), (6, true), (5, false), (7, false), (8, true), (9, true), (10, false), (11, true), (12, true), (13, true)] (by kernel_rfl) (by kernel_rfl) (Ext y) (Ext.rfl' y).dr ?_
    iterate 1 (refine sQ rfl rfl ?_ ?_ ?_; rotate_left; (· (intro w' hw'; have zt0 := hw'.cellOf bt0; have zt1 := hw'.cellOf bt1; have zt2 := hw'.cellOf bt2; have zt3 := hw'.cellOf bt3; go_simp; try with_reducible rfl)); try simp only [Act.put, List.setIfInBounds_toArray, List.set_cons_succ, List.set_cons_zero])
    refine sL rfl rfl ?_
    go_wp2_with fail
    refine SQ.mk ((Ext.rfl' y).dr.al _) ?_
    refine sL rfl rfl ?_
    go_wp2_with fail
    refine (great_any [t] _ 600 _ (one_slice (HCt.out _ (Ext.rfl' y).dr) _ _ (by simp)) (by omega) (by omega)).mono ?_
    rintro e w1 ⟨v, rfl, hv, he1⟩
    obtain rfl : v = _ := hv
    rw [hg.out]
    have hE1 := ((Ext.rfl' y).dr.al _).tr he1
    go_wp2_with fail
    refine SQ.mk hE1 ?_
    iterate 1 (refine sQ rfl rfl ?_ ?_ ?_; rotate_left; (· (intro w' hw'; have zt0 := hw'.cellOf bt0; have zt1 := hw'.cellOf bt1; have zt2 := hw'.cellOf bt2; have zt3 := hw'.cellOf bt3; go_simp; try with_reducible rfl)); try simp only [Act.put, List.setIfInBounds_toArray, List.set_cons_succ, List.set_cons_zero])
    iterate 2 (refine sN rfl rfl ?_; simp only [Act.put, List.setIfInBounds_toArray, List.set_cons_succ, List.set_cons_zero])
    (refine sM rfl rfl ?_; simp only [Act.put, List.setIfInBounds_toArray, List.set_cons_succ, List.set_cons_zero])
    (refine sM rfl rfl ?_; simp only [Act.put, List.setIfInBounds_toArray, List.set_cons_succ, List.set_cons_zero])
    iterate 2 (refine sN rfl rfl ?_; simp only [Act.put, List.setIfInBounds_toArray, List.set_cons_succ, List.set_cons_zero])
    (refine sM rfl rfl ?_; simp only [Act.put, List.setIfInBounds_toArray, List.set_cons_succ, List.set_cons_zero])
    iterate 1 (refine sN rfl rfl ?_; simp only [Act.put, List.setIfInBounds_toArray, List.set_cons_succ, List.set_cons_zero])
    iterate 2 (refine sQ rfl rfl ?_ ?_ ?_; rotate_left; (· (intro w' hw'; have zt0 := hw'.cellOf bt0; have zt1 := hw'.cellOf bt1; have zt2 := hw'.cellOf bt2; have zt3 := hw'.cellOf bt3; go_simp; try with_reducible rfl)); try simp only [Act.put, List.setIfInBounds_toArray, List.set_cons_succ, List.set_cons_zero])
    refine sE ?_
    go_wp2
    go_ret
    exact Ret.mk rfl (hE.out.tr hE1)
  · have hw : Hid (wt t ≤ 600) := Lib.hid (by have := weigh_wt 64 [t] 600 (by omega); simp only [wtL] at this; omega)
    have hg : Hid (decide (weighF 64 [t] 600 < 0) = false) := Lib.hid (decide_eq_false hgr)
    clear hgr
    go_enter Try.func3, Try.ntmps3
    go_wp2_with fail
    refine wp_region_sched [(0, true), (1, false), (2, false), (3, true), (4, true), (6, true), (5, false), (7, false), (8, true), (9, true), (10, false), (11, true), (12, true), (13, true)] (by kernel_rfl) (by kernel_rfl) (Ext y) (Ext.rfl' y).dr ?_
    iterate 1 (refine sQ rfl rfl ?_ ?_ ?_; rotate_left; (· (intro w' hw'; have zt0 := hw'.cellOf bt0; have zt1 := hw'.cellOf bt1; have zt2 := hw'.cellOf bt2; have zt3 := hw'.cellOf bt3; go_simp; try with_reducible rfl)); try simp only [Act.put, List.setIfInBounds_toArray, List.set_cons_succ, List.set_cons_zero])
    refine sL rfl rfl ?_
    go_wp2_with fail
    refine SQ.mk ((Ext.rfl' y).dr.al _) ?_
    refine sL rfl rfl ?_
    go_wp2_with fail
    refine (great_any [t] _ 600 _ (one_slice (HCt.out _ (Ext.rfl' y).dr) _ _ (by simp)) (by omega) (by omega)).mono ?_
    rintro e w1 ⟨v, rfl, hv, he1⟩
    obtain rfl : v = _ := hv
    rw [hg.out]
    have hE1 := ((Ext.rfl' y).dr.al _).tr he1
    go_wp2_with fail
    refine SQ.mk hE1 ?_
    iterate 3 (refine sQ rfl rfl ?_ ?_ ?_; rotate_left; (· (intro w' hw'; have zt0 := hw'.cellOf bt0; have zt1 := hw'.cellOf bt1; have zt2 := hw'.cellOf bt2; have zt3 := hw'.cellOf bt3; go_simp; try with_reducible rfl)); try simp only [Act.put, List.setIfInBounds_toArray, List.set_cons_succ, List.set_cons_zero])
    refine sL rfl rfl ?_
    go_wp2_with fail
    refine (right_any 600 (by omega) t _ _ hw.out (HCt.out _ hE1)).mono ?_
    rintro e w2 ⟨v, rfl, hv, he2⟩
    obtain rfl : v = _ := hv
    have hE2 := hE1.tr he2
    go_wp2_with fail
    refine SQ.mk hE2 ?_
    refine sL rfl rfl ?_
    go_wp2_with fail
    refine (refRight_any 600 (by omega) t _ _ hw.out (HCt.out _ hE2)).mono ?_
    rintro e w3 ⟨v, rfl, hv, he3⟩
    obtain rfl : v = _ := hv
    have hE3 := hE2.tr he3
    go_wp2_with fail
    refine SQ.mk hE3 ?_
    iterate 2 (refine sQ rfl rfl ?_ ?_ ?_; rotate_left; (· (intro w' hw'; have zt0 := hw'.cellOf bt0; have zt1 := hw'.cellOf bt1; have zt2 := hw'.cellOf bt2; have zt3 := hw'.cellOf bt3; go_simp; try with_reducible rfl)); try simp only [Act.put, List.setIfInBounds_toArray, List.set_cons_succ, List.set_cons_zero])
    refine sL rfl rfl ?_
    go_wp2_with fail
    refine (live_any _).mono ?_
    rintro e w4 ⟨v, rfl, hv, he4⟩
    obtain rfl : v = _ := hv
    have hE4 := hE3.tr he4
    go_wp2_with fail
    refine SQ.mk hE4 ?_
    iterate 3 (refine sQ rfl rfl ?_ ?_ ?_; rotate_left; (· (intro w' hw'; have zt0 := hw'.cellOf bt0; have zt1 := hw'.cellOf bt1; have zt2 := hw'.cellOf bt2; have zt3 := hw'.cellOf bt3; go_simp; try with_reducible rfl)); try simp only [Act.put, List.setIfInBounds_toArray, List.set_cons_succ, List.set_cons_zero])
    refine sE ?_
    go_wp2
    go_ret
    exact Ret.mk rfl (hE.out.tr hE4)

theorem holds : Holds 3 Try.f3 := by
  intro H enc W base args ds p hval hA
  rw [Try.params3] at hA hval
  obtain ⟨v0, vs0, d0, ds0, p0, q0, hargs, rfl, rfl, h0, r0⟩ := trodAll_cons hA
  obtain ⟨rfl, rfl, rfl⟩ := trodAll_nil r0
  obtain rfl : args = #[v0] := by cases args; simp_all
  obtain ⟨a0, g0⟩ := open_term (hval 0 24 v0 rfl rfl) h0
  exact walk a0 v0 W g0

set_option maxRecDepth 100000 in
theorem lifted (os : Os) (started : os.Started) (H : Type) (enc : TypeId × Value → H) :
    ReturnsInHanded {} Try.checked os 3 .any (Rows.termRightSpec.pre6 enc Try.prog Try.f3 Rows.termRightRow.domain false) (Rows.termRightSpec.post enc Try.prog Try.f3 false true false false) := by
  refine returnsInHanded_of_change (C := Try.checked) own started (by kernel_rfl) Try.func3
    (ChangeSpec.witness6 (enc := enc) (C := Try.checked) false ⟨#[], #[.agg #[.int .i64 0, .int .i64 0, .string ⟨#[]⟩, .slice none 0 0]], []⟩ 8 (by kernel_rfl) (by kernel_rfl) (by kernel_rfl) (by kernel_rfl)) ?_
  intro W base args ds gs before hval hW _ _
  exact law_contract holds rfl (by kernel_rfl) rfl rfl (fun H ds h => by
    match ds, h with
    | [_], _ => rfl) W base args ds gs before hval hW

theorem over : Rows.termRightRow.holds Try.pinned (OpenSpec.ofChange Rows.termRightSpec) :=
  OpenClaim.holds_of_wide 3 Try.f3 rfl rfl rfl rfl rfl rfl rfl ⟨rfl, rfl, rfl, rfl, rfl⟩ rfl rfl rfl rfl rfl (by kernel_rfl) Try.func3 (by kernel_rfl)
    (of_decide_eq_true (by kernel_rfl)) (by unfold Func.isWrapper; first | (rw [if_pos (by decide +kernel)]; kernel_rfl) | (rw [if_neg (by decide +kernel)]; exact ⟨rfl, rfl⟩))
    (fun os started H enc _ => lifted os started H enc)

theorem proved : Rows.TermRightSaid :=
  over
#print axioms proved
end Go.Proofs.Ytcjbageaiafbmaa.termRight
