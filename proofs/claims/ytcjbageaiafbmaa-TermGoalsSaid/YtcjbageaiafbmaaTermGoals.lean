/-
  RightGoal, SameGoal and GoalVars agree with their definitions: the law TermGoals returns true for every two goals. No condition.
-/
import Derived.Test.YtcjbageaiafbmaaOpenT
import Derived.Test.YtcjbageaiafbmaaLive
import Derived.Test.YtcjbageaiafbmaaSched
import Derived.Test.YtcjbageaiafbmaaVarsR
import Derived.Test.YtcjbageaiafbmaaAtomC
namespace Go.Proofs.Ytcjbageaiafbmaa.termGoals
open Go.ChangeShapes Go.WideShapes Go.ChangeAt Go.RowKit
set_option linter.unusedVariables false

theorem two_of {α : Type} {L : Lay α} {w : World} {a b : α} {cs ds : Array Value} (h : L.V w a (.agg cs)) (k : L.V w b (.agg ds)) (ty : TypeId) (g : Nat) (hg : w.heap.size = g) : L.Sl (w.alloc (.cells (cs ++ ds) ty)) [a, b] (.slice (some ⟨g, 0, none⟩) 2 2) :=
  ⟨some ⟨g, 0, none⟩, 2, (cs ++ ds).toList, rfl, by simp, by omega, Rd.newAt _ _ _ _ hg, by
    rw [Array.toList_append]
    exact Lay.Ls.cons (L.ext h.c ((Ext.rfl' w).al _)) (Lay.Ls.single (L.ext k.c ((Ext.rfl' w).al _)))⟩

set_option maxRecDepth 100000 in
set_option maxHeartbeats 4000000 in
theorem walk (a b : Gl) (v x : Value) (w : World) (ha : VG w a v) (hb : VG w b x) : Calls Try.prog 7 #[v, x] w (Ret w (Is (.bool true))) := by
  obtain ⟨sa, rfl, hsa, -⟩ := ha.open_
  obtain ⟨sb, rfl, hsb, -⟩ := hb.open_
  obtain ⟨Aa, ca, xsa, rfl, -⟩ := hsa
  obtain ⟨Ab, cb, xsb, rfl, -⟩ := hsb
  obtain ⟨y, hy⟩ : ∃ y, ((w.alloc (.cells #[.int .i64 a.op, .string a.n, .slice Aa a.ts.length ca] 39)).alloc (.cells #[.int .i64 b.op, .string b.n, .slice Ab b.ts.length cb] 39)) = y := ⟨_, rfl⟩
  have HE : Hid (Ext w y) := Lib.hid (by rw [← hy]; exact (((Ext.rfl' w).al _).al _))
  have ba0 : y.cell? ⟨w.heap.size, 0, none⟩ = some (.int .i64 a.op) := by rw [← hy]; exact ((Ext.rfl' _).al _).cellOf (box_at w #[.int .i64 a.op, .string a.n, .slice Aa a.ts.length ca] 39 0 _ (w.heap.size) (by simp) rfl)
  have ba1 : y.cell? ⟨w.heap.size, 1, none⟩ = some (.string a.n) := by rw [← hy]; exact ((Ext.rfl' _).al _).cellOf (box_at w #[.int .i64 a.op, .string a.n, .slice Aa a.ts.length ca] 39 1 _ (w.heap.size) (by simp) rfl)
  have ba2 : y.cell? ⟨w.heap.size, 2, none⟩ = some (.slice Aa a.ts.length ca) := by rw [← hy]; exact ((Ext.rfl' _).al _).cellOf (box_at w #[.int .i64 a.op, .string a.n, .slice Aa a.ts.length ca] 39 2 _ (w.heap.size) (by simp) rfl)
  have bb0 : y.cell? ⟨w.heap.size + 1, 0, none⟩ = some (.int .i64 b.op) := by rw [← hy]; exact box_at (w.alloc (.cells #[.int .i64 a.op, .string a.n, .slice Aa a.ts.length ca] 39)) #[.int .i64 b.op, .string b.n, .slice Ab b.ts.length cb] 39 0 _ (w.heap.size + 1) (by simp) rfl
  have bb1 : y.cell? ⟨w.heap.size + 1, 1, none⟩ = some (.string b.n) := by rw [← hy]; exact box_at (w.alloc (.cells #[.int .i64 a.op, .string a.n, .slice Aa a.ts.length ca] 39)) #[.int .i64 b.op, .string b.n, .slice Ab b.ts.length cb] 39 1 _ (w.heap.size + 1) (by simp) rfl
  have bb2 : y.cell? ⟨w.heap.size + 1, 2, none⟩ = some (.slice Ab b.ts.length cb) := by rw [← hy]; exact box_at (w.alloc (.cells #[.int .i64 a.op, .string a.n, .slice Aa a.ts.length ca] 39)) #[.int .i64 b.op, .string b.n, .slice Ab b.ts.length cb] 39 2 _ (w.heap.size + 1) (by simp) rfl
  have HCa : Hid (∀ w', Ext y w' → VG w' a (.agg #[.int .i64 a.op, .string a.n, .slice Aa a.ts.length ca])) := Lib.hid fun w' e => ha.ext (HE.out.tr e)
  have HCb : Hid (∀ w', Ext y w' → VG w' b (.agg #[.int .i64 b.op, .string b.n, .slice Ab b.ts.length cb])) := Lib.hid fun w' e => hb.ext (HE.out.tr e)
  clear ha hb
  have HG := hide (fun ty => greatGoals_any [a, b] _ 600 _ (two_of (L := layG) (HCa.out _ (Ext.rfl' y)) (HCb.out _ (Ext.rfl' y)) ty _ rfl) (by omega) (by omega) (by simp))
  by_cases hgr : weighN ([a, b].map fun a => (a.n, a.ts)) 600 < 0
  · have hg : Hid (decide (weighN ([a, b].map fun a => (a.n, a.ts)) 600 < 0) = true) := Lib.hid (decide_eq_true hgr)
    clear hgr
    go_enter Try.func7, Try.ntmps7
    go_wp2_with fail
    refine ((unhide HG) _).mono ?_
    rintro e w1 ⟨v, rfl, hv, he1⟩
    obtain rfl : v = _ := hv
    rw [hg.out]
    have hE1 := ((Ext.rfl' y).al _).tr he1
    clear he1
    go_wp2_with fail
    go_ret
    exact Ret.mk rfl (HE.out.tr hE1)
  · have hw : Hid (wtL a.ts ≤ 600 ∧ wtL b.ts ≤ 600) := Lib.hid (by
      have h := weighN_wt ([a, b].map fun a => (a.n, a.ts)) 600 (by omega)
      have h1 := h (a.n, a.ts) (by simp)
      have h2 := h (b.n, b.ts) (by simp)
      simp only at h1 h2
      omega)
    have hg : Hid (decide (weighN ([a, b].map fun a => (a.n, a.ts)) 600 < 0) = false) := Lib.hid (decide_eq_false hgr)
    have HL : Hid ((uniq [] (occL a.ts)).length ≤ 100000000) := Lib.hid (by have := uniq_len (occL a.ts) []; have := occL_wt a.ts; have := hw.out; simp at *; omega)
    clear hgr
    go_enter Try.func7, Try.ntmps7
    go_wp2_with fail
    refine ((unhide HG) _).mono ?_
    rintro e w1 ⟨v, rfl, hv, he1⟩
    obtain rfl : v = _ := hv
    rw [hg.out]
    have hE1 := ((Ext.rfl' y).al _).tr he1
    clear he1
    go_wp2_with fail
    have ca0 := hE1.cellOf ba0
    have ca1 := hE1.cellOf ba1
    have ca2 := hE1.cellOf ba2
    have cb0 := hE1.cellOf bb0
    have cb1 := hE1.cellOf bb1
    have cb2 := hE1.cellOf bb2
    refine wp_region_sched [(0, true), (2, true), (1, false), (3, false), (4, true), (5, true), (6, true), (7, true), (9, true), (10, true), (8, false), (11, false), (12, true), (13, true), (14, true), (15, true), (16, true), (17, false), (18, true), (19, true)] (by kernel_rfl) (by kernel_rfl) (Ext w1) (Ext.rfl' w1).dr ?_
    iterate 2 (refine sQ rfl rfl ?_ ?_ ?_; rotate_left; (· (intro w' hw'; have za0 := hw'.cellOf ca0; have za1 := hw'.cellOf ca1; have za2 := hw'.cellOf ca2; have zb0 := hw'.cellOf cb0; have zb1 := hw'.cellOf cb1; have zb2 := hw'.cellOf cb2; go_simp; try with_reducible rfl)); try simp only [Act.put, List.setIfInBounds_toArray, List.set_cons_succ, List.set_cons_zero])
    refine sL rfl rfl ?_
    go_wp2_with fail
    refine (rightGoal_any 600 (by omega) a _ _ hw.out.1 (HCa.out _ (hE1.tr ((Ext.rfl' w1).dr)))).mono ?_
    rintro e w2 ⟨v, rfl, hv, he2⟩
    obtain rfl : v = _ := hv
    skip
    have hX2 := ((Ext.rfl' w1).dr).tr he2
    clear he2
    go_wp2_with fail
    refine SQ.mk (hX2) ?_
    refine sL rfl rfl ?_
    go_wp2_with fail
    refine (refRightGoal_any 600 (by omega) a _ _ hw.out.1 (HCa.out _ (hE1.tr (hX2)))).mono ?_
    rintro e w3 ⟨v, rfl, hv, he3⟩
    obtain rfl : v = _ := hv
    skip
    have hX3 := (hX2).tr he3
    clear he3
    go_wp2_with fail
    refine SQ.mk (hX3) ?_
    iterate 6 (refine sQ rfl rfl ?_ ?_ ?_; rotate_left; (· (intro w' hw'; have za0 := hw'.cellOf ca0; have za1 := hw'.cellOf ca1; have za2 := hw'.cellOf ca2; have zb0 := hw'.cellOf cb0; have zb1 := hw'.cellOf cb1; have zb2 := hw'.cellOf cb2; go_simp; try with_reducible rfl)); try simp only [Act.put, List.setIfInBounds_toArray, List.set_cons_succ, List.set_cons_zero])
    refine sL rfl rfl ?_
    go_wp2_with fail
    refine (sameGoal_any 600 (by omega) a b _ _ _ hw.out.1 (HCa.out _ (hE1.tr (hX3))) (HCb.out _ (hE1.tr (hX3)))).mono ?_
    rintro e w4 ⟨v, rfl, hv, he4⟩
    obtain rfl : v = _ := hv
    skip
    have hX4 := (hX3).tr he4
    clear he4
    go_wp2_with fail
    refine SQ.mk (hX4) ?_
    refine sL rfl rfl ?_
    go_wp2_with fail
    refine (refSameGoal_any 600 (by omega) a b _ _ _ hw.out.1 (HCa.out _ (hE1.tr (hX4))) (HCb.out _ (hE1.tr (hX4)))).mono ?_
    rintro e w5 ⟨v, rfl, hv, he5⟩
    obtain rfl : v = _ := hv
    skip
    have hX5 := (hX4).tr he5
    clear he5
    go_wp2_with fail
    refine SQ.mk (hX5) ?_
    iterate 5 (refine sQ rfl rfl ?_ ?_ ?_; rotate_left; (· (intro w' hw'; have za0 := hw'.cellOf ca0; have za1 := hw'.cellOf ca1; have za2 := hw'.cellOf ca2; have zb0 := hw'.cellOf cb0; have zb1 := hw'.cellOf cb1; have zb2 := hw'.cellOf cb2; go_simp; try with_reducible rfl)); try simp only [Act.put, List.setIfInBounds_toArray, List.set_cons_succ, List.set_cons_zero])
    refine sL rfl rfl ?_
    go_wp2_with fail
    refine (sameGoal_any 600 (by omega) b b _ _ _ hw.out.2 (HCb.out _ (hE1.tr (hX5))) (HCb.out _ (hE1.tr (hX5)))).mono ?_
    rintro e w6 ⟨v, rfl, hv, he6⟩
    obtain rfl : v = _ := hv
    rw [show sameG b b = true by unfold sameG; rw [cmpL_self]; simp]
    have hX6 := (hX5).tr he6
    clear he6
    go_wp2_with fail
    refine SQ.mk (hX6) ?_
    iterate 2 (refine sQ rfl rfl ?_ ?_ ?_; rotate_left; (· (intro w' hw'; have za0 := hw'.cellOf ca0; have za1 := hw'.cellOf ca1; have za2 := hw'.cellOf ca2; have zb0 := hw'.cellOf cb0; have zb1 := hw'.cellOf cb1; have zb2 := hw'.cellOf cb2; go_simp; try with_reducible rfl)); try simp only [Act.put, List.setIfInBounds_toArray, List.set_cons_succ, List.set_cons_zero])
    refine sE ?_
    have hE6 := hE1.tr hX6
    clear hX2 hX3 hX4 hX5 hX6 ca0 ca1 ca2 cb0 cb1 cb2
    go_wp2_with fail
    have ca0 := hE6.cellOf ba0
    have ca1 := hE6.cellOf ba1
    have ca2 := hE6.cellOf ba2
    have cb0 := hE6.cellOf bb0
    have cb1 := hE6.cellOf bb1
    have cb2 := hE6.cellOf bb2
    refine wp_region_sched [(0, true), (2, true), (1, false), (3, false), (4, false), (5, true), (6, false), (7, true), (8, true)] (by kernel_rfl) (by kernel_rfl) (Ext w6) (Ext.rfl' w6).dr ?_
    iterate 2 (refine sQ rfl rfl ?_ ?_ ?_; rotate_left; (· (intro w' hw'; have za0 := hw'.cellOf ca0; have za1 := hw'.cellOf ca1; have za2 := hw'.cellOf ca2; have zb0 := hw'.cellOf cb0; have zb1 := hw'.cellOf cb1; have zb2 := hw'.cellOf cb2; go_simp; try with_reducible rfl)); try simp only [Act.put, List.setIfInBounds_toArray, List.set_cons_succ, List.set_cons_zero])
    refine sL rfl rfl ?_
    go_wp2_with fail
    refine (goalVars_any 600 (by omega) a _ _ hw.out.1 (HCa.out _ (hE6.tr ((Ext.rfl' w6).dr)))).mono ?_
    rintro e w7 ⟨v, rfl, hv, he7⟩
    have hr6 := hide hv
    obtain ⟨A6, c6, rfl, -⟩ := hv
    skip
    have hX7 := ((Ext.rfl' w6).dr).tr he7
    clear he7
    go_wp2_with fail
    refine SQ.mk (hX7) ?_
    refine sL rfl rfl ?_
    go_wp2_with fail
    refine (refGoalVars_any 600 (by omega) a _ _ hw.out.1 (HCa.out _ (hE6.tr (hX7)))).mono ?_
    rintro e w8 ⟨v, rfl, hv, he8⟩
    have hr7 := hide hv
    obtain ⟨A7, c7, rfl, -⟩ := hv
    have hr6 := hide ((unhide hr6).ext he8)
    skip
    have hX8 := (hX7).tr he8
    clear he8
    go_wp2_with fail
    refine SQ.mk (hX8) ?_
    refine sL rfl rfl ?_
    go_wp2_with fail
    refine (sameInts_any _ _ _ _ _ HL.out HL.out (unhide hr6) (unhide hr7)).mono ?_
    rintro e w9 ⟨v, rfl, hv, he9⟩
    obtain rfl : v = _ := hv
    rw [decide_eq_true rfl]
    skip
    have hX9 := (hX8).tr he9
    clear he9
    go_wp2_with fail
    refine SQ.mk (hX9) ?_
    iterate 1 (refine sQ rfl rfl ?_ ?_ ?_; rotate_left; (· (intro w' hw'; have za0 := hw'.cellOf ca0; have za1 := hw'.cellOf ca1; have za2 := hw'.cellOf ca2; have zb0 := hw'.cellOf cb0; have zb1 := hw'.cellOf cb1; have zb2 := hw'.cellOf cb2; go_simp; try with_reducible rfl)); try simp only [Act.put, List.setIfInBounds_toArray, List.set_cons_succ, List.set_cons_zero])
    refine sL rfl rfl ?_
    go_wp2_with fail
    refine (live_any _).mono ?_
    rintro e w10 ⟨v, rfl, hv, he10⟩
    obtain rfl : v = _ := hv
    skip
    have hX10 := (hX9).tr he10
    clear he10
    go_wp2_with fail
    refine SQ.mk (hX10) ?_
    iterate 2 (refine sQ rfl rfl ?_ ?_ ?_; rotate_left; (· (intro w' hw'; have za0 := hw'.cellOf ca0; have za1 := hw'.cellOf ca1; have za2 := hw'.cellOf ca2; have zb0 := hw'.cellOf cb0; have zb1 := hw'.cellOf cb1; have zb2 := hw'.cellOf cb2; go_simp; try with_reducible rfl)); try simp only [Act.put, List.setIfInBounds_toArray, List.set_cons_succ, List.set_cons_zero])
    refine sE ?_
    go_wp2
    go_ret
    exact Ret.mk rfl ((HE.out.tr hE6).tr hX10)

theorem holds : Holds 7 Try.f7 := by
  intro H enc W base args ds p hval hA
  rw [Try.params7] at hA hval
  obtain ⟨v0, vs0, d0, ds0, p0, q0, hargs, rfl, rfl, h0, r0⟩ := trodAll_cons hA
  obtain ⟨v1, vs1, d1, ds1, p1, q1, rfl, rfl, rfl, h1, r1⟩ := trodAll_cons r0
  obtain ⟨rfl, rfl, rfl⟩ := trodAll_nil r1
  obtain rfl : args = #[v0, v1] := by cases args; simp_all
  obtain ⟨a0, g0⟩ := open_goal (hval 0 39 v0 rfl rfl) h0
  obtain ⟨a1, g1⟩ := open_goal (hval 1 39 v1 rfl rfl) h1
  exact walk a0 a1 v0 v1 W g0 g1

set_option maxRecDepth 100000 in
theorem lifted (os : Os) (started : os.Started) (H : Type) (enc : TypeId × Value → H) :
    ReturnsInHanded {} Try.checked os 7 .any (Rows.termGoalsSpec.pre6 enc Try.prog Try.f7 Rows.termGoalsRow.domain false) (Rows.termGoalsSpec.post enc Try.prog Try.f7 false true false false) := by
  refine returnsInHanded_of_change (C := Try.checked) own started (by kernel_rfl) Try.func7
    (ChangeSpec.witness6 (enc := enc) (C := Try.checked) false ⟨#[], #[.agg #[.int .i64 0, .string ⟨#[]⟩, .slice none 0 0], .agg #[.int .i64 0, .string ⟨#[]⟩, .slice none 0 0]], []⟩ 8 (by kernel_rfl) (by kernel_rfl) (by kernel_rfl) (by kernel_rfl)) ?_
  intro W base args ds gs before hval hW _ _
  exact law_contract holds rfl (by kernel_rfl) rfl rfl (fun H ds h => by
    match ds, h with
    | [_, _], _ => rfl) W base args ds gs before hval hW

theorem over : Rows.termGoalsRow.holds Try.pinned (OpenSpec.ofChange Rows.termGoalsSpec) :=
  OpenClaim.holds_of_wide 7 Try.f7 rfl rfl rfl rfl rfl rfl rfl ⟨rfl, rfl, rfl, rfl, rfl⟩ rfl rfl rfl rfl rfl (by kernel_rfl) Try.func7 (by kernel_rfl)
    (of_decide_eq_true (by kernel_rfl)) (by unfold Func.isWrapper; first | (rw [if_pos (by decide +kernel)]; kernel_rfl) | (rw [if_neg (by decide +kernel)]; exact ⟨rfl, rfl⟩))
    (fun os started H enc _ => lifted os started H enc)

theorem proved : Rows.TermGoalsSaid :=
  over
#print axioms proved
end Go.Proofs.Ytcjbageaiafbmaa.termGoals
