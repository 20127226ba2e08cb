/-
  RightAtom, SameAtom, CompareAtom and AtomVars agree with their definitions: the law TermAtoms returns true for every two constraints. No condition.
-/
import Derived.Test.YtcjbageaiafbmaaOpenT
import Derived.Test.YtcjbageaiafbmaaLive
import Derived.Test.YtcjbageaiafbmaaSched
import Derived.Test.YtcjbageaiafbmaaVarsR
import Derived.Test.YtcjbageaiafbmaaAtomC
namespace Go.Proofs.Ytcjbageaiafbmaa.termAtoms
open Go.ChangeShapes Go.WideShapes Go.ChangeAt Go.RowKit
set_option linter.unusedVariables false

theorem cmpB_self : ∀ l : List UInt8, cmpB l l = 0 := fun l => by have := neg_B l l; omega
theorem cmpA_self (a : At) : cmpA a a = 0 := by
  unfold cmpA
  rw [cmpS_eq, cmpB_self, cmpI_self, cmpL_self]
  rfl
theorem two_of {α : Type} {L : Lay α} {w : World} {a b : α} {cs ds : Array Value} (h : L.V w a (.agg cs)) (k : L.V w b (.agg ds)) (ty : TypeId) (g : Nat) (hg : w.heap.size = g) : L.Sl (w.alloc (.cells (cs ++ ds) ty)) [a, b] (.slice (some ⟨g, 0, none⟩) 2 2) :=
  ⟨some ⟨g, 0, none⟩, 2, (cs ++ ds).toList, rfl, by simp, by omega, Rd.newAt _ _ _ _ hg, by
    rw [Array.toList_append]
    exact Lay.Ls.cons (L.ext h.c ((Ext.rfl' w).al _)) (Lay.Ls.single (L.ext k.c ((Ext.rfl' w).al _)))⟩

set_option maxRecDepth 100000 in
set_option maxHeartbeats 4000000 in
theorem walk (a b : At) (v x : Value) (w : World) (ha : VA w a v) (hb : VA w b x) : Calls Try.prog 8 #[v, x] w (Ret w (Is (.bool true))) := by
  obtain ⟨sa, rfl, hsa, -⟩ := ha.open_
  obtain ⟨sb, rfl, hsb, -⟩ := hb.open_
  obtain ⟨Aa, ca, xsa, rfl, -⟩ := hsa
  obtain ⟨Ab, cb, xsb, rfl, -⟩ := hsb
  obtain ⟨y, hy⟩ : ∃ y, ((w.alloc (.cells #[.string a.n, .slice Aa a.ts.length ca] 46)).alloc (.cells #[.string b.n, .slice Ab b.ts.length cb] 46)) = y := ⟨_, rfl⟩
  have HE : Hid (Ext w y) := Lib.hid (by rw [← hy]; exact (((Ext.rfl' w).al _).al _))
  have ba0 : y.cell? ⟨w.heap.size, 0, none⟩ = some (.string a.n) := by rw [← hy]; exact ((Ext.rfl' _).al _).cellOf (box_at w #[.string a.n, .slice Aa a.ts.length ca] 46 0 _ (w.heap.size) (by simp) rfl)
  have ba1 : y.cell? ⟨w.heap.size, 1, none⟩ = some (.slice Aa a.ts.length ca) := by rw [← hy]; exact ((Ext.rfl' _).al _).cellOf (box_at w #[.string a.n, .slice Aa a.ts.length ca] 46 1 _ (w.heap.size) (by simp) rfl)
  have bb0 : y.cell? ⟨w.heap.size + 1, 0, none⟩ = some (.string b.n) := by rw [← hy]; exact box_at (w.alloc (.cells #[.string a.n, .slice Aa a.ts.length ca] 46)) #[.string b.n, .slice Ab b.ts.length cb] 46 0 _ (w.heap.size + 1) (by simp) rfl
  have bb1 : y.cell? ⟨w.heap.size + 1, 1, none⟩ = some (.slice Ab b.ts.length cb) := by rw [← hy]; exact box_at (w.alloc (.cells #[.string a.n, .slice Aa a.ts.length ca] 46)) #[.string b.n, .slice Ab b.ts.length cb] 46 1 _ (w.heap.size + 1) (by simp) rfl
  have HCa : Hid (∀ w', Ext y w' → VA w' a (.agg #[.string a.n, .slice Aa a.ts.length ca])) := Lib.hid fun w' e => ha.ext (HE.out.tr e)
  have HCb : Hid (∀ w', Ext y w' → VA w' b (.agg #[.string b.n, .slice Ab b.ts.length cb])) := Lib.hid fun w' e => hb.ext (HE.out.tr e)
  clear ha hb
  have HG := hide (fun ty => greatAtoms_any [a, b] _ 600 _ (two_of (L := layA) (HCa.out _ (Ext.rfl' y)) (HCb.out _ (Ext.rfl' y)) ty _ rfl) (by omega) (by omega) (by simp))
  by_cases hgr : weighN ([a, b].map fun a => (a.n, a.ts)) 600 < 0
  · have hg : Hid (decide (weighN ([a, b].map fun a => (a.n, a.ts)) 600 < 0) = true) := Lib.hid (decide_eq_true hgr)
    clear hgr
    go_enter Try.func8, Try.ntmps8
    go_wp2_with fail
    refine ((unhide HG) _).mono ?_
    rintro e w1 ⟨v, rfl, hv, he1⟩
    obtain rfl : v = _ := hv
    rw [hg.out]
    have hE1 := ((Ext.rfl' y).al _).tr he1
    clear he1
    go_wp2_with fail
    go_ret
    exact Ret.mk rfl (HE.out.tr hE1)
  · have hw : Hid (wtL a.ts ≤ 600 ∧ wtL b.ts ≤ 600) := Lib.hid (by
      have h := weighN_wt ([a, b].map fun a => (a.n, a.ts)) 600 (by omega)
      have h1 := h (a.n, a.ts) (by simp)
      have h2 := h (b.n, b.ts) (by simp)
      simp only at h1 h2
      omega)
    have hg : Hid (decide (weighN ([a, b].map fun a => (a.n, a.ts)) 600 < 0) = false) := Lib.hid (decide_eq_false hgr)
    have HL : Hid ((uniq [] (occL a.ts)).length ≤ 100000000) := Lib.hid (by have := uniq_len (occL a.ts) []; have := occL_wt a.ts; have := hw.out; simp at *; omega)
    clear hgr
    go_enter Try.func8, Try.ntmps8
    go_wp2_with fail
    refine ((unhide HG) _).mono ?_
    rintro e w1 ⟨v, rfl, hv, he1⟩
    obtain rfl : v = _ := hv
    rw [hg.out]
    have hE1 := ((Ext.rfl' y).al _).tr he1
    clear he1
    go_wp2_with fail
    have ca0 := hE1.cellOf ba0
    have ca1 := hE1.cellOf ba1
    have cb0 := hE1.cellOf bb0
    have cb1 := hE1.cellOf bb1
    refine wp_region_sched [(0, true), (2, true), (1, false), (3, false), (4, true), (5, true), (6, true), (7, true), (9, true), (10, true), (8, false), (11, false), (12, true), (13, true), (14, true), (15, true), (16, true), (18, true), (19, true), (17, false), (20, false), (21, true), (22, true), (23, true), (24, true), (25, true), (27, true), (28, true), (26, false), (29, false), (30, true), (31, true)] (by kernel_rfl) (by kernel_rfl) (Ext w1) (Ext.rfl' w1).dr ?_
    iterate 2 (refine sQ rfl rfl ?_ ?_ ?_; rotate_left; (· (intro w' hw'; have za0 := hw'.cellOf ca0; have za1 := hw'.cellOf ca1; have zb0 := hw'.cellOf cb0; have zb1 := hw'.cellOf cb1; go_simp; try with_reducible rfl)); try simp only [Act.put, List.setIfInBounds_toArray, List.set_cons_succ, List.set_cons_zero])
    refine sL rfl rfl ?_
    go_wp2_with fail
    refine (rightAtom_any 600 (by omega) a _ _ hw.out.1 (HCa.out _ (hE1.tr ((Ext.rfl' w1).dr)))).mono ?_
    rintro e w2 ⟨v, rfl, hv, he2⟩
    obtain rfl : v = _ := hv
    skip
    have hX2 := ((Ext.rfl' w1).dr).tr he2
    clear he2
    go_wp2_with fail
    refine SQ.mk (hX2) ?_
    refine sL rfl rfl ?_
    go_wp2_with fail
    refine (refRightAtom_any 600 (by omega) a _ _ hw.out.1 (HCa.out _ (hE1.tr (hX2)))).mono ?_
    rintro e w3 ⟨v, rfl, hv, he3⟩
    obtain rfl : v = _ := hv
    skip
    have hX3 := (hX2).tr he3
    clear he3
    go_wp2_with fail
    refine SQ.mk (hX3) ?_
    iterate 6 (refine sQ rfl rfl ?_ ?_ ?_; rotate_left; (· (intro w' hw'; have za0 := hw'.cellOf ca0; have za1 := hw'.cellOf ca1; have zb0 := hw'.cellOf cb0; have zb1 := hw'.cellOf cb1; go_simp; try with_reducible rfl)); try simp only [Act.put, List.setIfInBounds_toArray, List.set_cons_succ, List.set_cons_zero])
    refine sL rfl rfl ?_
    go_wp2_with fail
    refine (sameAtom_any 600 (by omega) a b _ _ _ hw.out.1 (HCa.out _ (hE1.tr (hX3))) (HCb.out _ (hE1.tr (hX3)))).mono ?_
    rintro e w4 ⟨v, rfl, hv, he4⟩
    obtain rfl : v = _ := hv
    skip
    have hX4 := (hX3).tr he4
    clear he4
    go_wp2_with fail
    refine SQ.mk (hX4) ?_
    refine sL rfl rfl ?_
    go_wp2_with fail
    refine (refSameAtom_any 600 (by omega) a b _ _ _ hw.out.1 (HCa.out _ (hE1.tr (hX4))) (HCb.out _ (hE1.tr (hX4)))).mono ?_
    rintro e w5 ⟨v, rfl, hv, he5⟩
    obtain rfl : v = _ := hv
    skip
    have hX5 := (hX4).tr he5
    clear he5
    go_wp2_with fail
    refine SQ.mk (hX5) ?_
    iterate 7 (refine sQ rfl rfl ?_ ?_ ?_; rotate_left; (· (intro w' hw'; have za0 := hw'.cellOf ca0; have za1 := hw'.cellOf ca1; have zb0 := hw'.cellOf cb0; have zb1 := hw'.cellOf cb1; go_simp; try with_reducible rfl)); try simp only [Act.put, List.setIfInBounds_toArray, List.set_cons_succ, List.set_cons_zero])
    refine sL rfl rfl ?_
    go_wp2_with fail
    refine (cmpAtom_any 600 (by omega) a b _ _ _ hw.out.1 (HCa.out _ (hE1.tr (hX5))) (HCb.out _ (hE1.tr (hX5)))).mono ?_
    rintro e w6 ⟨v, rfl, hv, he6⟩
    obtain rfl : v = _ := hv
    skip
    have hX6 := (hX5).tr he6
    clear he6
    go_wp2_with fail
    refine SQ.mk (hX6) ?_
    refine sL rfl rfl ?_
    go_wp2_with fail
    refine (refCmpAtom_any 600 (by omega) a b _ _ _ hw.out.1 (HCa.out _ (hE1.tr (hX6))) (HCb.out _ (hE1.tr (hX6)))).mono ?_
    rintro e w7 ⟨v, rfl, hv, he7⟩
    obtain rfl : v = _ := hv
    skip
    have hX7 := (hX6).tr he7
    clear he7
    go_wp2_with fail
    refine SQ.mk (hX7) ?_
    iterate 7 (refine sQ rfl rfl ?_ ?_ ?_; rotate_left; (· (intro w' hw'; have za0 := hw'.cellOf ca0; have za1 := hw'.cellOf ca1; have zb0 := hw'.cellOf cb0; have zb1 := hw'.cellOf cb1; go_simp; try with_reducible rfl)); try simp only [Act.put, List.setIfInBounds_toArray, List.set_cons_succ, List.set_cons_zero])
    refine sL rfl rfl ?_
    go_wp2_with fail
    refine (cmpAtom_any 600 (by omega) b a _ _ _ hw.out.2 (HCb.out _ (hE1.tr (hX7))) (HCa.out _ (hE1.tr (hX7)))).mono ?_
    rintro e w8 ⟨v, rfl, hv, he8⟩
    obtain rfl : v = _ := hv
    skip
    have hX8 := (hX7).tr he8
    clear he8
    go_wp2_with fail
    refine SQ.mk (hX8) ?_
    refine sL rfl rfl ?_
    go_wp2_with fail
    refine (refCmpAtom_any 600 (by omega) b a _ _ _ hw.out.2 (HCb.out _ (hE1.tr (hX8))) (HCa.out _ (hE1.tr (hX8)))).mono ?_
    rintro e w9 ⟨v, rfl, hv, he9⟩
    obtain rfl : v = _ := hv
    skip
    have hX9 := (hX8).tr he9
    clear he9
    go_wp2_with fail
    refine SQ.mk (hX9) ?_
    iterate 2 (refine sQ rfl rfl ?_ ?_ ?_; rotate_left; (· (intro w' hw'; have za0 := hw'.cellOf ca0; have za1 := hw'.cellOf ca1; have zb0 := hw'.cellOf cb0; have zb1 := hw'.cellOf cb1; go_simp; try with_reducible rfl)); try simp only [Act.put, List.setIfInBounds_toArray, List.set_cons_succ, List.set_cons_zero])
    refine sE ?_
    have hE9 := hE1.tr hX9
    clear hX2 hX3 hX4 hX5 hX6 hX7 hX8 hX9 ca0 ca1 cb0 cb1
    go_wp2_with fail
    have ca0 := hE9.cellOf ba0
    have ca1 := hE9.cellOf ba1
    have cb0 := hE9.cellOf bb0
    have cb1 := hE9.cellOf bb1
    refine wp_region_sched [(0, true), (2, true), (1, false), (3, false), (4, false), (5, true), (6, true), (7, true), (8, false), (9, true), (10, true), (11, false), (12, true), (13, true)] (by kernel_rfl) (by kernel_rfl) (Ext w9) (Ext.rfl' w9).dr ?_
    iterate 2 (refine sQ rfl rfl ?_ ?_ ?_; rotate_left; (· (intro w' hw'; have za0 := hw'.cellOf ca0; have za1 := hw'.cellOf ca1; have zb0 := hw'.cellOf cb0; have zb1 := hw'.cellOf cb1; go_simp; try with_reducible rfl)); try simp only [Act.put, List.setIfInBounds_toArray, List.set_cons_succ, List.set_cons_zero])
    refine sL rfl rfl ?_
    go_wp2_with fail
    refine (atomVars_any 600 (by omega) a _ _ hw.out.1 (HCa.out _ (hE9.tr ((Ext.rfl' w9).dr)))).mono ?_
    rintro e w10 ⟨v, rfl, hv, he10⟩
    have hr6 := hide hv
    obtain ⟨A6, c6, rfl, -⟩ := hv
    skip
    have hX10 := ((Ext.rfl' w9).dr).tr he10
    clear he10
    go_wp2_with fail
    refine SQ.mk (hX10) ?_
    refine sL rfl rfl ?_
    go_wp2_with fail
    refine (refAtomVars_any 600 (by omega) a _ _ hw.out.1 (HCa.out _ (hE9.tr (hX10)))).mono ?_
    rintro e w11 ⟨v, rfl, hv, he11⟩
    have hr7 := hide hv
    obtain ⟨A7, c7, rfl, -⟩ := hv
    have hr6 := hide ((unhide hr6).ext he11)
    skip
    have hX11 := (hX10).tr he11
    clear he11
    go_wp2_with fail
    refine SQ.mk (hX11) ?_
    refine sL rfl rfl ?_
    go_wp2_with fail
    refine (sameInts_any _ _ _ _ _ HL.out HL.out (unhide hr6) (unhide hr7)).mono ?_
    rintro e w12 ⟨v, rfl, hv, he12⟩
    obtain rfl : v = _ := hv
    rw [decide_eq_true rfl]
    skip
    have hX12 := (hX11).tr he12
    clear he12
    go_wp2_with fail
    refine SQ.mk (hX12) ?_
    iterate 3 (refine sQ rfl rfl ?_ ?_ ?_; rotate_left; (· (intro w' hw'; have za0 := hw'.cellOf ca0; have za1 := hw'.cellOf ca1; have zb0 := hw'.cellOf cb0; have zb1 := hw'.cellOf cb1; go_simp; try with_reducible rfl)); try simp only [Act.put, List.setIfInBounds_toArray, List.set_cons_succ, List.set_cons_zero])
    refine sL rfl rfl ?_
    go_wp2_with fail
    refine (sameAtom_any 600 (by omega) a a _ _ _ hw.out.1 (HCa.out _ (hE9.tr (hX12))) (HCa.out _ (hE9.tr (hX12)))).mono ?_
    rintro e w13 ⟨v, rfl, hv, he13⟩
    obtain rfl : v = _ := hv
    rw [show (cmpA a a == 0) = true by rw [cmpA_self]; rfl]
    have hX13 := (hX12).tr he13
    clear he13
    go_wp2_with fail
    refine SQ.mk (hX13) ?_
    iterate 2 (refine sQ rfl rfl ?_ ?_ ?_; rotate_left; (· (intro w' hw'; have za0 := hw'.cellOf ca0; have za1 := hw'.cellOf ca1; have zb0 := hw'.cellOf cb0; have zb1 := hw'.cellOf cb1; go_simp; try with_reducible rfl)); try simp only [Act.put, List.setIfInBounds_toArray, List.set_cons_succ, List.set_cons_zero])
    refine sL rfl rfl ?_
    go_wp2_with fail
    refine (live_any _).mono ?_
    rintro e w14 ⟨v, rfl, hv, he14⟩
    obtain rfl : v = _ := hv
    skip
    have hX14 := (hX13).tr he14
    clear he14
    go_wp2_with fail
    refine SQ.mk (hX14) ?_
    iterate 2 (refine sQ rfl rfl ?_ ?_ ?_; rotate_left; (· (intro w' hw'; have za0 := hw'.cellOf ca0; have za1 := hw'.cellOf ca1; have zb0 := hw'.cellOf cb0; have zb1 := hw'.cellOf cb1; go_simp; try with_reducible rfl)); try simp only [Act.put, List.setIfInBounds_toArray, List.set_cons_succ, List.set_cons_zero])
    refine sE ?_
    go_wp2
    go_ret
    exact Ret.mk rfl ((HE.out.tr hE9).tr hX14)

theorem holds : Holds 8 Try.f8 := by
  intro H enc W base args ds p hval hA
  rw [Try.params8] at hA hval
  obtain ⟨v0, vs0, d0, ds0, p0, q0, hargs, rfl, rfl, h0, r0⟩ := trodAll_cons hA
  obtain ⟨v1, vs1, d1, ds1, p1, q1, rfl, rfl, rfl, h1, r1⟩ := trodAll_cons r0
  obtain ⟨rfl, rfl, rfl⟩ := trodAll_nil r1
  obtain rfl : args = #[v0, v1] := by cases args; simp_all
  obtain ⟨a0, g0⟩ := open_atom (hval 0 46 v0 rfl rfl) h0
  obtain ⟨a1, g1⟩ := open_atom (hval 1 46 v1 rfl rfl) h1
  exact walk a0 a1 v0 v1 W g0 g1

set_option maxRecDepth 100000 in
theorem lifted (os : Os) (started : os.Started) (H : Type) (enc : TypeId × Value → H) :
    ReturnsInHanded {} Try.checked os 8 .any (Rows.termAtomsSpec.pre6 enc Try.prog Try.f8 Rows.termAtomsRow.domain false) (Rows.termAtomsSpec.post enc Try.prog Try.f8 false true false false) := by
  refine returnsInHanded_of_change (C := Try.checked) own started (by kernel_rfl) Try.func8
    (ChangeSpec.witness6 (enc := enc) (C := Try.checked) false ⟨#[], #[.agg #[.string ⟨#[]⟩, .slice none 0 0], .agg #[.string ⟨#[]⟩, .slice none 0 0]], []⟩ 8 (by kernel_rfl) (by kernel_rfl) (by kernel_rfl) (by kernel_rfl)) ?_
  intro W base args ds gs before hval hW _ _
  exact law_contract holds rfl (by kernel_rfl) rfl rfl (fun H ds h => by
    match ds, h with
    | [_, _], _ => rfl) W base args ds gs before hval hW

theorem over : Rows.termAtomsRow.holds Try.pinned (OpenSpec.ofChange Rows.termAtomsSpec) :=
  OpenClaim.holds_of_wide 8 Try.f8 rfl rfl rfl rfl rfl rfl rfl ⟨rfl, rfl, rfl, rfl, rfl⟩ rfl rfl rfl rfl rfl (by kernel_rfl) Try.func8 (by kernel_rfl)
    (of_decide_eq_true (by kernel_rfl)) (by unfold Func.isWrapper; first | (rw [if_pos (by decide +kernel)]; kernel_rfl) | (rw [if_neg (by decide +kernel)]; exact ⟨rfl, rfl⟩))
    (fun os started H enc _ => lifted os started H enc)

theorem proved : Rows.TermAtomsSaid :=
  over
#print axioms proved
end Go.Proofs.Ytcjbageaiafbmaa.termAtoms
