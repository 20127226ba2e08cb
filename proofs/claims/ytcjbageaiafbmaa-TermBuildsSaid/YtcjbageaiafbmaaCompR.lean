/-
  The walks of Compare, lists and Same of the reference.
-/
import Derived.Test.YtcjbageaiafbmaaCompW
namespace Go.Proofs.Ytcjbageaiafbmaa
open Go.RowKit

/-- The common part, then the lengths. -/
def listsT (ts us : List T) : Int := orI (cmpL ts us) (cmpI ts.length us.length)
theorem listsT_same {ts us : List T} (h : ts.length = us.length) : listsT ts us = cmpL ts us := by
  unfold listsT
  rw [h, cmpI_self]
  unfold orI
  split
  · rfl
  · rename_i h0; simpa using (by simpa using h0 : cmpL ts us = 0).symm
theorem cmpL_nil2 : ∀ ts : List T, cmpL ts [] = 0
  | [] => by simp only [cmpL]
  | t :: ts => by simp only [cmpL]

set_option maxRecDepth 100000 in
set_option maxHeartbeats 3200000 in
theorem refCompare_step (n : Nat)
    (HL : Hid (∀ (ts us : List T) (v u : Value) (w : World), wtL ts ≤ n → SlT w ts v → SlT w us u → Calls Try.prog 60 #[v, u] w (Ret w (Is (.int .i64 (listsT ts us))))))
    (t u : T) (v x : Value) (w : World) (hn : wtL t.ar ≤ n) (hv : VT w t v) (hx : VT w u x) : Calls Try.prog 15 #[v, x] w (Ret w (Is (.int .i64 (cmpT t u)))) := by
  have HF := Lib.hid (cmpT_eq t u)
  have hv0 := hv
  have hx0 := hx
  obtain ⟨sl, rfl, hs, -⟩ := hv.open_
  obtain ⟨sx, rfl, hy, -⟩ := hx.open_
  obtain ⟨B, d, xs, rfl, hs'⟩ := hs
  obtain ⟨D, d2, ys, rfl, hy'⟩ := hy
  have HS : Hid (SlT w t.ar (.slice B t.ar.length d)) := ⟨B, d, xs, rfl, hs'⟩
  have HY : Hid (SlT w u.ar (.slice D u.ar.length d2)) := ⟨D, d2, ys, rfl, hy'⟩
  have HV0 := Lib.hid hv0
  have HX0 := Lib.hid hx0
  clear hv hx hv0 hx0 hs' hy'
  by_cases h1 : cmpI (rankK t.k) (rankK u.k) = 0
  · have hb : (cmpI (rankK t.k) (rankK u.k) != 0) = false := by simpa using h1
    have HF1 : Hid (cmpT t u = if rankK t.k = 0 ∨ rankK t.k = 1 then cmpI t.i u.i
       else if rankK t.k = 2 then orI (cmpI t.ar.length u.ar.length) (orI (cmpS t.s u.s) (cmpL t.ar u.ar))
       else orI (cmpI t.k u.k) (orI (cmpI t.i u.i) (cmpS t.s u.s))) := by rw [HF.out]; unfold orI; rw [if_neg (by simpa using h1)]; exact Lib.hid rfl
    have hr := rankK_lt t.k
    clear h1 HF
    by_cases r0 : rankK t.k = 0
    · have HF2 : Hid (cmpT t u = cmpI t.i u.i) := by rw [HF1.out, if_pos (.inl r0)]; exact Lib.hid rfl
      have b0 : (rankK t.k == 0) = true := by simpa using r0
      clear r0 hr HF1
      go_enter Try.func15, Try.ntmps15
      go_wp2_with fail
      have hB := two_boxes w #[.int .i64 t.k, .int .i64 t.i, .string t.s, .slice B t.ar.length d] #[.int .i64 u.k, .int .i64 u.i, .string u.s, .slice D u.ar.length d2] 24 24 0
      rw [World.drewN_zero] at hB
      generalize ((w.alloc (.cells #[.int .i64 t.k, .int .i64 t.i, .string t.s, .slice B t.ar.length d] 24)).alloc (.cells #[.int .i64 u.k, .int .i64 u.i, .string u.s, .slice D u.ar.length d2] 24)) = y at hB ⊢
      obtain ⟨hEy, hB1, hB2⟩ := hB
      have HV : Hid (VT y t _) := HV0.out.ext hEy
      have HX : Hid (VT y u _) := HX0.out.ext hEy
      have k0 : y.cell? ⟨w.heap.size, 0, none⟩ = some (.int .i64 t.k) := hB1 0
      have k1 : y.cell? ⟨w.heap.size, 1, none⟩ = some (.int .i64 t.i) := hB1 1
      have k2 : y.cell? ⟨w.heap.size, 2, none⟩ = some (.string t.s) := hB1 2
      have k3 : y.cell? ⟨w.heap.size, 3, none⟩ = some (.slice B t.ar.length d) := hB1 3
      have m0 : y.cell? ⟨w.heap.size + 1, 0, none⟩ = some (.int .i64 u.k) := hB2 0
      have m1 : y.cell? ⟨w.heap.size + 1, 1, none⟩ = some (.int .i64 u.i) := hB2 1
      have m2 : y.cell? ⟨w.heap.size + 1, 2, none⟩ = some (.string u.s) := hB2 2
      have m3 : y.cell? ⟨w.heap.size + 1, 3, none⟩ = some (.slice D u.ar.length d2) := hB2 3
      clear hB1 hB2
      refine wp_region_sched [(0, true), (2, true), (1, false), (3, false), (4, false), (5, true)] (by kernel_rfl) (by kernel_rfl) (Ext y) (Ext.rfl' y).dr ?_
      iterate 2 (refine sQ rfl rfl ?_ ?_ ?_; rotate_left; (· (intro w' hw'; have zk0 := hw'.cellOf k0; have zk1 := hw'.cellOf k1; have zk2 := hw'.cellOf k2; have zk3 := hw'.cellOf k3; have zm0 := hw'.cellOf m0; have zm1 := hw'.cellOf m1; have zm2 := hw'.cellOf m2; have zm3 := hw'.cellOf m3; go_simp; try with_reducible rfl)); try simp only [Act.put, List.setIfInBounds_toArray, List.set_cons_succ, List.set_cons_zero])
      refine sL rfl rfl ?_
      go_wp2_with fail
      refine (class_any t _ _ (HV.out.ext (Ext.rfl' y).dr)).mono ?_
      rintro e w1 ⟨v, rfl, hv1, he1⟩
      obtain rfl : v = _ := hv1
      have hC1 : Ext y w1 := (Ext.rfl' y).dr.tr he1
      go_wp2_with fail
      refine SQ.mk hC1 ?_
      refine sL rfl rfl ?_
      go_wp2_with fail
      refine (class_any u _ _ (HX.out.ext hC1)).mono ?_
      rintro e w2 ⟨v, rfl, hv2, he2⟩
      obtain rfl : v = _ := hv2
      have hC2 : Ext y w2 := hC1.tr he2
      go_wp2_with fail
      refine SQ.mk hC2 ?_
      refine sL rfl rfl ?_
      go_wp2_with fail
      refine (ints_any _ _ _).mono ?_
      rintro e w1 ⟨rfl, rfl⟩
      go_wp2_with fail
      refine SQ.mk hC2 ?_
      iterate 1 (refine sQ rfl rfl ?_ ?_ ?_; rotate_left; (· (intro w' hw'; have zk0 := hw'.cellOf k0; have zk1 := hw'.cellOf k1; have zk2 := hw'.cellOf k2; have zk3 := hw'.cellOf k3; have zm0 := hw'.cellOf m0; have zm1 := hw'.cellOf m1; have zm2 := hw'.cellOf m2; have zm3 := hw'.cellOf m3; go_simp; try with_reducible rfl)); try simp only [Act.put, List.setIfInBounds_toArray, List.set_cons_succ, List.set_cons_zero])
      refine sE ?_
      have z0 := hC2.cellOf k0
      have z1 := hC2.cellOf k1
      have z2 := hC2.cellOf k2
      have z3 := hC2.cellOf k3
      go_wp2_with fail
      refine (class_any t _ _ (HV.out.ext hC2)).mono ?_
      rintro e w3 ⟨v, rfl, hv3, he3⟩
      obtain rfl : v = _ := hv3
      have hC3 : Ext y w3 := hC2.tr he3
      clear z0 z1 z2 z3
      have z0 := hC3.cellOf k0
      have z1 := hC3.cellOf k1
      have z2 := hC3.cellOf k2
      have z3 := hC3.cellOf k3
      have x0 := hC3.cellOf m0
      have x1 := hC3.cellOf m1
      have x2 := hC3.cellOf m2
      have x3 := hC3.cellOf m3
      go_wp2_with fail
      refine (ints_any _ _ _).mono ?_
      rintro e w1 ⟨rfl, rfl⟩
      go_wp2
      go_ret
      rw [HF2.out]
      exact Ret.mk rfl (hEy.tr hC3)
    by_cases r1 : rankK t.k = 1
    · have HF2 : Hid (cmpT t u = cmpI t.i u.i) := by rw [HF1.out, if_pos (.inr r1)]; exact Lib.hid rfl
      have b0 : (rankK t.k == 0) = false := by simpa using r0
      have b1 : (rankK t.k == 1) = true := by simpa using r1
      clear r0 r1 hr HF1
      go_enter Try.func15, Try.ntmps15
      go_wp2_with fail
      have hB := two_boxes w #[.int .i64 t.k, .int .i64 t.i, .string t.s, .slice B t.ar.length d] #[.int .i64 u.k, .int .i64 u.i, .string u.s, .slice D u.ar.length d2] 24 24 0
      rw [World.drewN_zero] at hB
      generalize ((w.alloc (.cells #[.int .i64 t.k, .int .i64 t.i, .string t.s, .slice B t.ar.length d] 24)).alloc (.cells #[.int .i64 u.k, .int .i64 u.i, .string u.s, .slice D u.ar.length d2] 24)) = y at hB ⊢
      obtain ⟨hEy, hB1, hB2⟩ := hB
      have HV : Hid (VT y t _) := HV0.out.ext hEy
      have HX : Hid (VT y u _) := HX0.out.ext hEy
      have k0 : y.cell? ⟨w.heap.size, 0, none⟩ = some (.int .i64 t.k) := hB1 0
      have k1 : y.cell? ⟨w.heap.size, 1, none⟩ = some (.int .i64 t.i) := hB1 1
      have k2 : y.cell? ⟨w.heap.size, 2, none⟩ = some (.string t.s) := hB1 2
      have k3 : y.cell? ⟨w.heap.size, 3, none⟩ = some (.slice B t.ar.length d) := hB1 3
      have m0 : y.cell? ⟨w.heap.size + 1, 0, none⟩ = some (.int .i64 u.k) := hB2 0
      have m1 : y.cell? ⟨w.heap.size + 1, 1, none⟩ = some (.int .i64 u.i) := hB2 1
      have m2 : y.cell? ⟨w.heap.size + 1, 2, none⟩ = some (.string u.s) := hB2 2
      have m3 : y.cell? ⟨w.heap.size + 1, 3, none⟩ = some (.slice D u.ar.length d2) := hB2 3
      clear hB1 hB2
      refine wp_region_sched [(0, true), (2, true), (1, false), (3, false), (4, false), (5, true)] (by kernel_rfl) (by kernel_rfl) (Ext y) (Ext.rfl' y).dr ?_
      iterate 2 (refine sQ rfl rfl ?_ ?_ ?_; rotate_left; (· (intro w' hw'; have zk0 := hw'.cellOf k0; have zk1 := hw'.cellOf k1; have zk2 := hw'.cellOf k2; have zk3 := hw'.cellOf k3; have zm0 := hw'.cellOf m0; have zm1 := hw'.cellOf m1; have zm2 := hw'.cellOf m2; have zm3 := hw'.cellOf m3; go_simp; try with_reducible rfl)); try simp only [Act.put, List.setIfInBounds_toArray, List.set_cons_succ, List.set_cons_zero])
      refine sL rfl rfl ?_
      go_wp2_with fail
      refine (class_any t _ _ (HV.out.ext (Ext.rfl' y).dr)).mono ?_
      rintro e w1 ⟨v, rfl, hv1, he1⟩
      obtain rfl : v = _ := hv1
      have hC1 : Ext y w1 := (Ext.rfl' y).dr.tr he1
      go_wp2_with fail
      refine SQ.mk hC1 ?_
      refine sL rfl rfl ?_
      go_wp2_with fail
      refine (class_any u _ _ (HX.out.ext hC1)).mono ?_
      rintro e w2 ⟨v, rfl, hv2, he2⟩
      obtain rfl : v = _ := hv2
      have hC2 : Ext y w2 := hC1.tr he2
      go_wp2_with fail
      refine SQ.mk hC2 ?_
      refine sL rfl rfl ?_
      go_wp2_with fail
      refine (ints_any _ _ _).mono ?_
      rintro e w1 ⟨rfl, rfl⟩
      go_wp2_with fail
      refine SQ.mk hC2 ?_
      iterate 1 (refine sQ rfl rfl ?_ ?_ ?_; rotate_left; (· (intro w' hw'; have zk0 := hw'.cellOf k0; have zk1 := hw'.cellOf k1; have zk2 := hw'.cellOf k2; have zk3 := hw'.cellOf k3; have zm0 := hw'.cellOf m0; have zm1 := hw'.cellOf m1; have zm2 := hw'.cellOf m2; have zm3 := hw'.cellOf m3; go_simp; try with_reducible rfl)); try simp only [Act.put, List.setIfInBounds_toArray, List.set_cons_succ, List.set_cons_zero])
      refine sE ?_
      have z0 := hC2.cellOf k0
      have z1 := hC2.cellOf k1
      have z2 := hC2.cellOf k2
      have z3 := hC2.cellOf k3
      go_wp2_with fail
      refine (class_any t _ _ (HV.out.ext hC2)).mono ?_
      rintro e w3 ⟨v, rfl, hv3, he3⟩
      obtain rfl : v = _ := hv3
      have hC3 : Ext y w3 := hC2.tr he3
      clear z0 z1 z2 z3
      have z0 := hC3.cellOf k0
      have z1 := hC3.cellOf k1
      have z2 := hC3.cellOf k2
      have z3 := hC3.cellOf k3
      have x0 := hC3.cellOf m0
      have x1 := hC3.cellOf m1
      have x2 := hC3.cellOf m2
      have x3 := hC3.cellOf m3
      go_wp2_with fail
      refine (ints_any _ _ _).mono ?_
      rintro e w1 ⟨rfl, rfl⟩
      go_wp2
      go_ret
      rw [HF2.out]
      exact Ret.mk rfl (hEy.tr hC3)
    have HF2 : Hid (cmpT t u = if rankK t.k = 2 then orI (cmpI t.ar.length u.ar.length) (orI (cmpS t.s u.s) (cmpL t.ar u.ar)) else orI (cmpI t.k u.k) (orI (cmpI t.i u.i) (cmpS t.s u.s))) := by
      rw [HF1.out, if_neg (by omega)]; exact Lib.hid rfl
    have b0 : (rankK t.k == 0) = false := by simpa using r0
    have b1 : (rankK t.k == 1) = false := by simpa using r1
    clear HF1
    by_cases r2 : rankK t.k = 2
    · have HF3 : Hid (cmpT t u = orI (cmpI t.ar.length u.ar.length) (orI (cmpS t.s u.s) (cmpL t.ar u.ar))) := by rw [HF2.out, if_pos r2]; exact Lib.hid rfl
      have b2 : (rankK t.k == 2) = true := by simpa using r2
      clear HF2 r0 r1 r2 hr
      by_cases l1 : cmpI t.ar.length u.ar.length = 0
      · have bl : (cmpI (t.ar.length : Int) (u.ar.length : Int) == 0) = true := by simpa using l1
        have HF4 : Hid (cmpT t u = orI (cmpS t.s u.s) (cmpL t.ar u.ar)) := by rw [HF3.out]; unfold orI; rw [if_neg (by simpa using l1)]; exact Lib.hid rfl
        have LL : Hid (t.ar.length = u.ar.length) := by have := cmpI_zero l1; exact Lib.hid (by omega)
        clear l1 HF3
        by_cases s1 : cmpS t.s u.s = 0
        · have bs : (cmpS t.s u.s == 0) = true := by simpa using s1
          have HF5 : Hid (cmpT t u = cmpL t.ar u.ar) := by rw [HF4.out]; unfold orI; rw [if_neg (by simpa using s1)]; exact Lib.hid rfl
          clear s1 HF4
          go_enter Try.func15, Try.ntmps15
          go_wp2_with fail
          have hB := two_boxes w #[.int .i64 t.k, .int .i64 t.i, .string t.s, .slice B t.ar.length d] #[.int .i64 u.k, .int .i64 u.i, .string u.s, .slice D u.ar.length d2] 24 24 0
          rw [World.drewN_zero] at hB
          generalize ((w.alloc (.cells #[.int .i64 t.k, .int .i64 t.i, .string t.s, .slice B t.ar.length d] 24)).alloc (.cells #[.int .i64 u.k, .int .i64 u.i, .string u.s, .slice D u.ar.length d2] 24)) = y at hB ⊢
          obtain ⟨hEy, hB1, hB2⟩ := hB
          have HV : Hid (VT y t _) := HV0.out.ext hEy
          have HX : Hid (VT y u _) := HX0.out.ext hEy
          have k0 : y.cell? ⟨w.heap.size, 0, none⟩ = some (.int .i64 t.k) := hB1 0
          have k1 : y.cell? ⟨w.heap.size, 1, none⟩ = some (.int .i64 t.i) := hB1 1
          have k2 : y.cell? ⟨w.heap.size, 2, none⟩ = some (.string t.s) := hB1 2
          have k3 : y.cell? ⟨w.heap.size, 3, none⟩ = some (.slice B t.ar.length d) := hB1 3
          have m0 : y.cell? ⟨w.heap.size + 1, 0, none⟩ = some (.int .i64 u.k) := hB2 0
          have m1 : y.cell? ⟨w.heap.size + 1, 1, none⟩ = some (.int .i64 u.i) := hB2 1
          have m2 : y.cell? ⟨w.heap.size + 1, 2, none⟩ = some (.string u.s) := hB2 2
          have m3 : y.cell? ⟨w.heap.size + 1, 3, none⟩ = some (.slice D u.ar.length d2) := hB2 3
          clear hB1 hB2
          refine wp_region_sched [(0, true), (2, true), (1, false), (3, false), (4, false), (5, true)] (by kernel_rfl) (by kernel_rfl) (Ext y) (Ext.rfl' y).dr ?_
          iterate 2 (refine sQ rfl rfl ?_ ?_ ?_; rotate_left; (· (intro w' hw'; have zk0 := hw'.cellOf k0; have zk1 := hw'.cellOf k1; have zk2 := hw'.cellOf k2; have zk3 := hw'.cellOf k3; have zm0 := hw'.cellOf m0; have zm1 := hw'.cellOf m1; have zm2 := hw'.cellOf m2; have zm3 := hw'.cellOf m3; go_simp; try with_reducible rfl)); try simp only [Act.put, List.setIfInBounds_toArray, List.set_cons_succ, List.set_cons_zero])
          refine sL rfl rfl ?_
          go_wp2_with fail
          refine (class_any t _ _ (HV.out.ext (Ext.rfl' y).dr)).mono ?_
          rintro e w1 ⟨v, rfl, hv1, he1⟩
          obtain rfl : v = _ := hv1
          have hC1 : Ext y w1 := (Ext.rfl' y).dr.tr he1
          go_wp2_with fail
          refine SQ.mk hC1 ?_
          refine sL rfl rfl ?_
          go_wp2_with fail
          refine (class_any u _ _ (HX.out.ext hC1)).mono ?_
          rintro e w2 ⟨v, rfl, hv2, he2⟩
          obtain rfl : v = _ := hv2
          have hC2 : Ext y w2 := hC1.tr he2
          go_wp2_with fail
          refine SQ.mk hC2 ?_
          refine sL rfl rfl ?_
          go_wp2_with fail
          refine (ints_any _ _ _).mono ?_
          rintro e w1 ⟨rfl, rfl⟩
          go_wp2_with fail
          refine SQ.mk hC2 ?_
          iterate 1 (refine sQ rfl rfl ?_ ?_ ?_; rotate_left; (· (intro w' hw'; have zk0 := hw'.cellOf k0; have zk1 := hw'.cellOf k1; have zk2 := hw'.cellOf k2; have zk3 := hw'.cellOf k3; have zm0 := hw'.cellOf m0; have zm1 := hw'.cellOf m1; have zm2 := hw'.cellOf m2; have zm3 := hw'.cellOf m3; go_simp; try with_reducible rfl)); try simp only [Act.put, List.setIfInBounds_toArray, List.set_cons_succ, List.set_cons_zero])
          refine sE ?_
          have z0 := hC2.cellOf k0
          have z1 := hC2.cellOf k1
          have z2 := hC2.cellOf k2
          have z3 := hC2.cellOf k3
          go_wp2_with fail
          refine (class_any t _ _ (HV.out.ext hC2)).mono ?_
          rintro e w3 ⟨v, rfl, hv3, he3⟩
          obtain rfl : v = _ := hv3
          have hC3 : Ext y w3 := hC2.tr he3
          clear z0 z1 z2 z3
          have z0 := hC3.cellOf k0
          have z1 := hC3.cellOf k1
          have z2 := hC3.cellOf k2
          have z3 := hC3.cellOf k3
          have x0 := hC3.cellOf m0
          have x1 := hC3.cellOf m1
          have x2 := hC3.cellOf m2
          have x3 := hC3.cellOf m3
          go_wp2_with fail
          refine (ints_any _ _ _).mono ?_
          rintro e w1 ⟨rfl, rfl⟩
          go_wp2_with fail
          refine (texts_any _ _ _).mono ?_
          rintro e w1 ⟨rfl, rfl⟩
          go_wp2_with fail
          refine ((unhide HL) t.ar u.ar _ _ _ hn (HS.out.ext (hEy.tr hC3)) (HY.out.ext (hEy.tr hC3))).mono ?_
          rintro e w4 ⟨v, rfl, hv4, he4⟩
          obtain rfl : v = _ := hv4
          go_wp2
          go_ret
          rw [HF5.out, ← listsT_same LL.out]
          exact Ret.mk rfl ((hEy.tr hC3).tr he4)
        · have bs : (cmpS t.s u.s == 0) = false := by simpa using s1
          have HF5 : Hid (cmpT t u = cmpS t.s u.s) := by rw [HF4.out]; unfold orI; rw [if_pos s1]; exact Lib.hid rfl
          clear s1 HF4
          go_enter Try.func15, Try.ntmps15
          go_wp2_with fail
          have hB := two_boxes w #[.int .i64 t.k, .int .i64 t.i, .string t.s, .slice B t.ar.length d] #[.int .i64 u.k, .int .i64 u.i, .string u.s, .slice D u.ar.length d2] 24 24 0
          rw [World.drewN_zero] at hB
          generalize ((w.alloc (.cells #[.int .i64 t.k, .int .i64 t.i, .string t.s, .slice B t.ar.length d] 24)).alloc (.cells #[.int .i64 u.k, .int .i64 u.i, .string u.s, .slice D u.ar.length d2] 24)) = y at hB ⊢
          obtain ⟨hEy, hB1, hB2⟩ := hB
          have HV : Hid (VT y t _) := HV0.out.ext hEy
          have HX : Hid (VT y u _) := HX0.out.ext hEy
          have k0 : y.cell? ⟨w.heap.size, 0, none⟩ = some (.int .i64 t.k) := hB1 0
          have k1 : y.cell? ⟨w.heap.size, 1, none⟩ = some (.int .i64 t.i) := hB1 1
          have k2 : y.cell? ⟨w.heap.size, 2, none⟩ = some (.string t.s) := hB1 2
          have k3 : y.cell? ⟨w.heap.size, 3, none⟩ = some (.slice B t.ar.length d) := hB1 3
          have m0 : y.cell? ⟨w.heap.size + 1, 0, none⟩ = some (.int .i64 u.k) := hB2 0
          have m1 : y.cell? ⟨w.heap.size + 1, 1, none⟩ = some (.int .i64 u.i) := hB2 1
          have m2 : y.cell? ⟨w.heap.size + 1, 2, none⟩ = some (.string u.s) := hB2 2
          have m3 : y.cell? ⟨w.heap.size + 1, 3, none⟩ = some (.slice D u.ar.length d2) := hB2 3
          clear hB1 hB2
          refine wp_region_sched [(0, true), (2, true), (1, false), (3, false), (4, false), (5, true)] (by kernel_rfl) (by kernel_rfl) (Ext y) (Ext.rfl' y).dr ?_
          iterate 2 (refine sQ rfl rfl ?_ ?_ ?_; rotate_left; (· (intro w' hw'; have zk0 := hw'.cellOf k0; have zk1 := hw'.cellOf k1; have zk2 := hw'.cellOf k2; have zk3 := hw'.cellOf k3; have zm0 := hw'.cellOf m0; have zm1 := hw'.cellOf m1; have zm2 := hw'.cellOf m2; have zm3 := hw'.cellOf m3; go_simp; try with_reducible rfl)); try simp only [Act.put, List.setIfInBounds_toArray, List.set_cons_succ, List.set_cons_zero])
          refine sL rfl rfl ?_
          go_wp2_with fail
          refine (class_any t _ _ (HV.out.ext (Ext.rfl' y).dr)).mono ?_
          rintro e w1 ⟨v, rfl, hv1, he1⟩
          obtain rfl : v = _ := hv1
          have hC1 : Ext y w1 := (Ext.rfl' y).dr.tr he1
          go_wp2_with fail
          refine SQ.mk hC1 ?_
          refine sL rfl rfl ?_
          go_wp2_with fail
          refine (class_any u _ _ (HX.out.ext hC1)).mono ?_
          rintro e w2 ⟨v, rfl, hv2, he2⟩
          obtain rfl : v = _ := hv2
          have hC2 : Ext y w2 := hC1.tr he2
          go_wp2_with fail
          refine SQ.mk hC2 ?_
          refine sL rfl rfl ?_
          go_wp2_with fail
          refine (ints_any _ _ _).mono ?_
          rintro e w1 ⟨rfl, rfl⟩
          go_wp2_with fail
          refine SQ.mk hC2 ?_
          iterate 1 (refine sQ rfl rfl ?_ ?_ ?_; rotate_left; (· (intro w' hw'; have zk0 := hw'.cellOf k0; have zk1 := hw'.cellOf k1; have zk2 := hw'.cellOf k2; have zk3 := hw'.cellOf k3; have zm0 := hw'.cellOf m0; have zm1 := hw'.cellOf m1; have zm2 := hw'.cellOf m2; have zm3 := hw'.cellOf m3; go_simp; try with_reducible rfl)); try simp only [Act.put, List.setIfInBounds_toArray, List.set_cons_succ, List.set_cons_zero])
          refine sE ?_
          have z0 := hC2.cellOf k0
          have z1 := hC2.cellOf k1
          have z2 := hC2.cellOf k2
          have z3 := hC2.cellOf k3
          go_wp2_with fail
          refine (class_any t _ _ (HV.out.ext hC2)).mono ?_
          rintro e w3 ⟨v, rfl, hv3, he3⟩
          obtain rfl : v = _ := hv3
          have hC3 : Ext y w3 := hC2.tr he3
          clear z0 z1 z2 z3
          have z0 := hC3.cellOf k0
          have z1 := hC3.cellOf k1
          have z2 := hC3.cellOf k2
          have z3 := hC3.cellOf k3
          have x0 := hC3.cellOf m0
          have x1 := hC3.cellOf m1
          have x2 := hC3.cellOf m2
          have x3 := hC3.cellOf m3
          go_wp2_with fail
          refine (ints_any _ _ _).mono ?_
          rintro e w1 ⟨rfl, rfl⟩
          go_wp2_with fail
          refine (texts_any _ _ _).mono ?_
          rintro e w1 ⟨rfl, rfl⟩
          go_wp2
          go_ret
          rw [HF5.out]
          exact Ret.mk rfl (hEy.tr hC3)
      · have bl : (cmpI (t.ar.length : Int) (u.ar.length : Int) == 0) = false := by simpa using l1
        have HF4 : Hid (cmpT t u = cmpI t.ar.length u.ar.length) := by rw [HF3.out]; unfold orI; rw [if_pos l1]; exact Lib.hid rfl
        clear l1 HF3
        go_enter Try.func15, Try.ntmps15
        go_wp2_with fail
        have hB := two_boxes w #[.int .i64 t.k, .int .i64 t.i, .string t.s, .slice B t.ar.length d] #[.int .i64 u.k, .int .i64 u.i, .string u.s, .slice D u.ar.length d2] 24 24 0
        rw [World.drewN_zero] at hB
        generalize ((w.alloc (.cells #[.int .i64 t.k, .int .i64 t.i, .string t.s, .slice B t.ar.length d] 24)).alloc (.cells #[.int .i64 u.k, .int .i64 u.i, .string u.s, .slice D u.ar.length d2] 24)) = y at hB ⊢
        obtain ⟨hEy, hB1, hB2⟩ := hB
        have HV : Hid (VT y t _) := HV0.out.ext hEy
        have HX : Hid (VT y u _) := HX0.out.ext hEy
        have k0 : y.cell? ⟨w.heap.size, 0, none⟩ = some (.int .i64 t.k) := hB1 0
        have k1 : y.cell? ⟨w.heap.size, 1, none⟩ = some (.int .i64 t.i) := hB1 1
        have k2 : y.cell? ⟨w.heap.size, 2, none⟩ = some (.string t.s) := hB1 2
        have k3 : y.cell? ⟨w.heap.size, 3, none⟩ = some (.slice B t.ar.length d) := hB1 3
        have m0 : y.cell? ⟨w.heap.size + 1, 0, none⟩ = some (.int .i64 u.k) := hB2 0
        have m1 : y.cell? ⟨w.heap.size + 1, 1, none⟩ = some (.int .i64 u.i) := hB2 1
        have m2 : y.cell? ⟨w.heap.size + 1, 2, none⟩ = some (.string u.s) := hB2 2
        have m3 : y.cell? ⟨w.heap.size + 1, 3, none⟩ = some (.slice D u.ar.length d2) := hB2 3
        clear hB1 hB2
        refine wp_region_sched [(0, true), (2, true), (1, false), (3, false), (4, false), (5, true)] (by kernel_rfl) (by kernel_rfl) (Ext y) (Ext.rfl' y).dr ?_
        iterate 2 (refine sQ rfl rfl ?_ ?_ ?_; rotate_left; (· (intro w' hw'; have zk0 := hw'.cellOf k0; have zk1 := hw'.cellOf k1; have zk2 := hw'.cellOf k2; have zk3 := hw'.cellOf k3; have zm0 := hw'.cellOf m0; have zm1 := hw'.cellOf m1; have zm2 := hw'.cellOf m2; have zm3 := hw'.cellOf m3; go_simp; try with_reducible rfl)); try simp only [Act.put, List.setIfInBounds_toArray, List.set_cons_succ, List.set_cons_zero])
        refine sL rfl rfl ?_
        go_wp2_with fail
        refine (class_any t _ _ (HV.out.ext (Ext.rfl' y).dr)).mono ?_
        rintro e w1 ⟨v, rfl, hv1, he1⟩
        obtain rfl : v = _ := hv1
        have hC1 : Ext y w1 := (Ext.rfl' y).dr.tr he1
        go_wp2_with fail
        refine SQ.mk hC1 ?_
        refine sL rfl rfl ?_
        go_wp2_with fail
        refine (class_any u _ _ (HX.out.ext hC1)).mono ?_
        rintro e w2 ⟨v, rfl, hv2, he2⟩
        obtain rfl : v = _ := hv2
        have hC2 : Ext y w2 := hC1.tr he2
        go_wp2_with fail
        refine SQ.mk hC2 ?_
        refine sL rfl rfl ?_
        go_wp2_with fail
        refine (ints_any _ _ _).mono ?_
        rintro e w1 ⟨rfl, rfl⟩
        go_wp2_with fail
        refine SQ.mk hC2 ?_
        iterate 1 (refine sQ rfl rfl ?_ ?_ ?_; rotate_left; (· (intro w' hw'; have zk0 := hw'.cellOf k0; have zk1 := hw'.cellOf k1; have zk2 := hw'.cellOf k2; have zk3 := hw'.cellOf k3; have zm0 := hw'.cellOf m0; have zm1 := hw'.cellOf m1; have zm2 := hw'.cellOf m2; have zm3 := hw'.cellOf m3; go_simp; try with_reducible rfl)); try simp only [Act.put, List.setIfInBounds_toArray, List.set_cons_succ, List.set_cons_zero])
        refine sE ?_
        have z0 := hC2.cellOf k0
        have z1 := hC2.cellOf k1
        have z2 := hC2.cellOf k2
        have z3 := hC2.cellOf k3
        go_wp2_with fail
        refine (class_any t _ _ (HV.out.ext hC2)).mono ?_
        rintro e w3 ⟨v, rfl, hv3, he3⟩
        obtain rfl : v = _ := hv3
        have hC3 : Ext y w3 := hC2.tr he3
        clear z0 z1 z2 z3
        have z0 := hC3.cellOf k0
        have z1 := hC3.cellOf k1
        have z2 := hC3.cellOf k2
        have z3 := hC3.cellOf k3
        have x0 := hC3.cellOf m0
        have x1 := hC3.cellOf m1
        have x2 := hC3.cellOf m2
        have x3 := hC3.cellOf m3
        go_wp2_with fail
        refine (ints_any _ _ _).mono ?_
        rintro e w1 ⟨rfl, rfl⟩
        go_wp2
        go_ret
        rw [HF4.out]
        exact Ret.mk rfl (hEy.tr hC3)
    have HF3 : Hid (cmpT t u = orI (cmpI t.k u.k) (orI (cmpI t.i u.i) (cmpS t.s u.s))) := by rw [HF2.out, if_neg r2]; exact Lib.hid rfl
    have b2 : (rankK t.k == 2) = false := by simpa using r2
    clear HF2 r0 r1 r2 hr
    by_cases l1 : cmpI t.k u.k = 0
    · have bl : (cmpI t.k u.k == 0) = true := by simpa using l1
      have HF4 : Hid (cmpT t u = orI (cmpI t.i u.i) (cmpS t.s u.s)) := by rw [HF3.out]; unfold orI; rw [if_neg (by simpa using l1)]; exact Lib.hid rfl
      clear l1 HF3
      by_cases s1 : cmpI t.i u.i = 0
      · have bs : (cmpI t.i u.i == 0) = true := by simpa using s1
        have HF5 : Hid (cmpT t u = cmpS t.s u.s) := by rw [HF4.out]; unfold orI; rw [if_neg (by simpa using s1)]; exact Lib.hid rfl
        clear s1 HF4
        go_enter Try.func15, Try.ntmps15
        go_wp2_with fail
        have hB := two_boxes w #[.int .i64 t.k, .int .i64 t.i, .string t.s, .slice B t.ar.length d] #[.int .i64 u.k, .int .i64 u.i, .string u.s, .slice D u.ar.length d2] 24 24 0
        rw [World.drewN_zero] at hB
        generalize ((w.alloc (.cells #[.int .i64 t.k, .int .i64 t.i, .string t.s, .slice B t.ar.length d] 24)).alloc (.cells #[.int .i64 u.k, .int .i64 u.i, .string u.s, .slice D u.ar.length d2] 24)) = y at hB ⊢
        obtain ⟨hEy, hB1, hB2⟩ := hB
        have HV : Hid (VT y t _) := HV0.out.ext hEy
        have HX : Hid (VT y u _) := HX0.out.ext hEy
        have k0 : y.cell? ⟨w.heap.size, 0, none⟩ = some (.int .i64 t.k) := hB1 0
        have k1 : y.cell? ⟨w.heap.size, 1, none⟩ = some (.int .i64 t.i) := hB1 1
        have k2 : y.cell? ⟨w.heap.size, 2, none⟩ = some (.string t.s) := hB1 2
        have k3 : y.cell? ⟨w.heap.size, 3, none⟩ = some (.slice B t.ar.length d) := hB1 3
        have m0 : y.cell? ⟨w.heap.size + 1, 0, none⟩ = some (.int .i64 u.k) := hB2 0
        have m1 : y.cell? ⟨w.heap.size + 1, 1, none⟩ = some (.int .i64 u.i) := hB2 1
        have m2 : y.cell? ⟨w.heap.size + 1, 2, none⟩ = some (.string u.s) := hB2 2
        have m3 : y.cell? ⟨w.heap.size + 1, 3, none⟩ = some (.slice D u.ar.length d2) := hB2 3
        clear hB1 hB2
        refine wp_region_sched [(0, true), (2, true), (1, false), (3, false), (4, false), (5, true)] (by kernel_rfl) (by kernel_rfl) (Ext y) (Ext.rfl' y).dr ?_
        iterate 2 (refine sQ rfl rfl ?_ ?_ ?_; rotate_left; (· (intro w' hw'; have zk0 := hw'.cellOf k0; have zk1 := hw'.cellOf k1; have zk2 := hw'.cellOf k2; have zk3 := hw'.cellOf k3; have zm0 := hw'.cellOf m0; have zm1 := hw'.cellOf m1; have zm2 := hw'.cellOf m2; have zm3 := hw'.cellOf m3; go_simp; try with_reducible rfl)); try simp only [Act.put, List.setIfInBounds_toArray, List.set_cons_succ, List.set_cons_zero])
        refine sL rfl rfl ?_
        go_wp2_with fail
        refine (class_any t _ _ (HV.out.ext (Ext.rfl' y).dr)).mono ?_
        rintro e w1 ⟨v, rfl, hv1, he1⟩
        obtain rfl : v = _ := hv1
        have hC1 : Ext y w1 := (Ext.rfl' y).dr.tr he1
        go_wp2_with fail
        refine SQ.mk hC1 ?_
        refine sL rfl rfl ?_
        go_wp2_with fail
        refine (class_any u _ _ (HX.out.ext hC1)).mono ?_
        rintro e w2 ⟨v, rfl, hv2, he2⟩
        obtain rfl : v = _ := hv2
        have hC2 : Ext y w2 := hC1.tr he2
        go_wp2_with fail
        refine SQ.mk hC2 ?_
        refine sL rfl rfl ?_
        go_wp2_with fail
        refine (ints_any _ _ _).mono ?_
        rintro e w1 ⟨rfl, rfl⟩
        go_wp2_with fail
        refine SQ.mk hC2 ?_
        iterate 1 (refine sQ rfl rfl ?_ ?_ ?_; rotate_left; (· (intro w' hw'; have zk0 := hw'.cellOf k0; have zk1 := hw'.cellOf k1; have zk2 := hw'.cellOf k2; have zk3 := hw'.cellOf k3; have zm0 := hw'.cellOf m0; have zm1 := hw'.cellOf m1; have zm2 := hw'.cellOf m2; have zm3 := hw'.cellOf m3; go_simp; try with_reducible rfl)); try simp only [Act.put, List.setIfInBounds_toArray, List.set_cons_succ, List.set_cons_zero])
        refine sE ?_
        have z0 := hC2.cellOf k0
        have z1 := hC2.cellOf k1
        have z2 := hC2.cellOf k2
        have z3 := hC2.cellOf k3
        go_wp2_with fail
        refine (class_any t _ _ (HV.out.ext hC2)).mono ?_
        rintro e w3 ⟨v, rfl, hv3, he3⟩
        obtain rfl : v = _ := hv3
        have hC3 : Ext y w3 := hC2.tr he3
        clear z0 z1 z2 z3
        have z0 := hC3.cellOf k0
        have z1 := hC3.cellOf k1
        have z2 := hC3.cellOf k2
        have z3 := hC3.cellOf k3
        have x0 := hC3.cellOf m0
        have x1 := hC3.cellOf m1
        have x2 := hC3.cellOf m2
        have x3 := hC3.cellOf m3
        go_wp2_with fail
        refine (ints_any _ _ _).mono ?_
        rintro e w1 ⟨rfl, rfl⟩
        go_wp2_with fail
        refine (ints_any _ _ _).mono ?_
        rintro e w1 ⟨rfl, rfl⟩
        go_wp2_with fail
        refine (texts_any _ _ _).mono ?_
        rintro e w1 ⟨rfl, rfl⟩
        go_wp2
        go_ret
        rw [HF5.out]
        exact Ret.mk rfl (hEy.tr hC3)
      · have bs : (cmpI t.i u.i == 0) = false := by simpa using s1
        have HF5 : Hid (cmpT t u = cmpI t.i u.i) := by rw [HF4.out]; unfold orI; rw [if_pos s1]; exact Lib.hid rfl
        clear s1 HF4
        go_enter Try.func15, Try.ntmps15
        go_wp2_with fail
        have hB := two_boxes w #[.int .i64 t.k, .int .i64 t.i, .string t.s, .slice B t.ar.length d] #[.int .i64 u.k, .int .i64 u.i, .string u.s, .slice D u.ar.length d2] 24 24 0
        rw [World.drewN_zero] at hB
        generalize ((w.alloc (.cells #[.int .i64 t.k, .int .i64 t.i, .string t.s, .slice B t.ar.length d] 24)).alloc (.cells #[.int .i64 u.k, .int .i64 u.i, .string u.s, .slice D u.ar.length d2] 24)) = y at hB ⊢
        obtain ⟨hEy, hB1, hB2⟩ := hB
        have HV : Hid (VT y t _) := HV0.out.ext hEy
        have HX : Hid (VT y u _) := HX0.out.ext hEy
        have k0 : y.cell? ⟨w.heap.size, 0, none⟩ = some (.int .i64 t.k) := hB1 0
        have k1 : y.cell? ⟨w.heap.size, 1, none⟩ = some (.int .i64 t.i) := hB1 1
        have k2 : y.cell? ⟨w.heap.size, 2, none⟩ = some (.string t.s) := hB1 2
        have k3 : y.cell? ⟨w.heap.size, 3, none⟩ = some (.slice B t.ar.length d) := hB1 3
        have m0 : y.cell? ⟨w.heap.size + 1, 0, none⟩ = some (.int .i64 u.k) := hB2 0
        have m1 : y.cell? ⟨w.heap.size + 1, 1, none⟩ = some (.int .i64 u.i) := hB2 1
        have m2 : y.cell? ⟨w.heap.size + 1, 2, none⟩ = some (.string u.s) := hB2 2
        have m3 : y.cell? ⟨w.heap.size + 1, 3, none⟩ = some (.slice D u.ar.length d2) := hB2 3
        clear hB1 hB2
        refine wp_region_sched [(0, true), (2, true), (1, false), (3, false), (4, false), (5, true)] (by kernel_rfl) (by kernel_rfl) (Ext y) (Ext.rfl' y).dr ?_
        iterate 2 (refine sQ rfl rfl ?_ ?_ ?_; rotate_left; (· (intro w' hw'; have zk0 := hw'.cellOf k0; have zk1 := hw'.cellOf k1; have zk2 := hw'.cellOf k2; have zk3 := hw'.cellOf k3; have zm0 := hw'.cellOf m0; have zm1 := hw'.cellOf m1; have zm2 := hw'.cellOf m2; have zm3 := hw'.cellOf m3; go_simp; try with_reducible rfl)); try simp only [Act.put, List.setIfInBounds_toArray, List.set_cons_succ, List.set_cons_zero])
        refine sL rfl rfl ?_
        go_wp2_with fail
        refine (class_any t _ _ (HV.out.ext (Ext.rfl' y).dr)).mono ?_
        rintro e w1 ⟨v, rfl, hv1, he1⟩
        obtain rfl : v = _ := hv1
        have hC1 : Ext y w1 := (Ext.rfl' y).dr.tr he1
        go_wp2_with fail
        refine SQ.mk hC1 ?_
        refine sL rfl rfl ?_
        go_wp2_with fail
        refine (class_any u _ _ (HX.out.ext hC1)).mono ?_
        rintro e w2 ⟨v, rfl, hv2, he2⟩
        obtain rfl : v = _ := hv2
        have hC2 : Ext y w2 := hC1.tr he2
        go_wp2_with fail
        refine SQ.mk hC2 ?_
        refine sL rfl rfl ?_
        go_wp2_with fail
        refine (ints_any _ _ _).mono ?_
        rintro e w1 ⟨rfl, rfl⟩
        go_wp2_with fail
        refine SQ.mk hC2 ?_
        iterate 1 (refine sQ rfl rfl ?_ ?_ ?_; rotate_left; (· (intro w' hw'; have zk0 := hw'.cellOf k0; have zk1 := hw'.cellOf k1; have zk2 := hw'.cellOf k2; have zk3 := hw'.cellOf k3; have zm0 := hw'.cellOf m0; have zm1 := hw'.cellOf m1; have zm2 := hw'.cellOf m2; have zm3 := hw'.cellOf m3; go_simp; try with_reducible rfl)); try simp only [Act.put, List.setIfInBounds_toArray, List.set_cons_succ, List.set_cons_zero])
        refine sE ?_
        have z0 := hC2.cellOf k0
        have z1 := hC2.cellOf k1
        have z2 := hC2.cellOf k2
        have z3 := hC2.cellOf k3
        go_wp2_with fail
        refine (class_any t _ _ (HV.out.ext hC2)).mono ?_
        rintro e w3 ⟨v, rfl, hv3, he3⟩
        obtain rfl : v = _ := hv3
        have hC3 : Ext y w3 := hC2.tr he3
        clear z0 z1 z2 z3
        have z0 := hC3.cellOf k0
        have z1 := hC3.cellOf k1
        have z2 := hC3.cellOf k2
        have z3 := hC3.cellOf k3
        have x0 := hC3.cellOf m0
        have x1 := hC3.cellOf m1
        have x2 := hC3.cellOf m2
        have x3 := hC3.cellOf m3
        go_wp2_with fail
        refine (ints_any _ _ _).mono ?_
        rintro e w1 ⟨rfl, rfl⟩
        go_wp2_with fail
        refine (ints_any _ _ _).mono ?_
        rintro e w1 ⟨rfl, rfl⟩
        go_wp2
        go_ret
        rw [HF5.out]
        exact Ret.mk rfl (hEy.tr hC3)
    · have bl : (cmpI t.k u.k == 0) = false := by simpa using l1
      have HF4 : Hid (cmpT t u = cmpI t.k u.k) := by rw [HF3.out]; unfold orI; rw [if_pos l1]; exact Lib.hid rfl
      clear l1 HF3
      go_enter Try.func15, Try.ntmps15
      go_wp2_with fail
      have hB := two_boxes w #[.int .i64 t.k, .int .i64 t.i, .string t.s, .slice B t.ar.length d] #[.int .i64 u.k, .int .i64 u.i, .string u.s, .slice D u.ar.length d2] 24 24 0
      rw [World.drewN_zero] at hB
      generalize ((w.alloc (.cells #[.int .i64 t.k, .int .i64 t.i, .string t.s, .slice B t.ar.length d] 24)).alloc (.cells #[.int .i64 u.k, .int .i64 u.i, .string u.s, .slice D u.ar.length d2] 24)) = y at hB ⊢
      obtain ⟨hEy, hB1, hB2⟩ := hB
      have HV : Hid (VT y t _) := HV0.out.ext hEy
      have HX : Hid (VT y u _) := HX0.out.ext hEy
      have k0 : y.cell? ⟨w.heap.size, 0, none⟩ = some (.int .i64 t.k) := hB1 0
      have k1 : y.cell? ⟨w.heap.size, 1, none⟩ = some (.int .i64 t.i) := hB1 1
      have k2 : y.cell? ⟨w.heap.size, 2, none⟩ = some (.string t.s) := hB1 2
      have k3 : y.cell? ⟨w.heap.size, 3, none⟩ = some (.slice B t.ar.length d) := hB1 3
      have m0 : y.cell? ⟨w.heap.size + 1, 0, none⟩ = some (.int .i64 u.k) := hB2 0
      have m1 : y.cell? ⟨w.heap.size + 1, 1, none⟩ = some (.int .i64 u.i) := hB2 1
      have m2 : y.cell? ⟨w.heap.size + 1, 2, none⟩ = some (.string u.s) := hB2 2
      have m3 : y.cell? ⟨w.heap.size + 1, 3, none⟩ = some (.slice D u.ar.length d2) := hB2 3
      clear hB1 hB2
      refine wp_region_sched [(0, true), (2, true), (1, false), (3, false), (4, false), (5, true)] (by kernel_rfl) (by kernel_rfl) (Ext y) (Ext.rfl' y).dr ?_
      iterate 2 (refine sQ rfl rfl ?_ ?_ ?_; rotate_left; (· (intro w' hw'; have zk0 := hw'.cellOf k0; have zk1 := hw'.cellOf k1; have zk2 := hw'.cellOf k2; have zk3 := hw'.cellOf k3; have zm0 := hw'.cellOf m0; have zm1 := hw'.cellOf m1; have zm2 := hw'.cellOf m2; have zm3 := hw'.cellOf m3; go_simp; try with_reducible rfl)); try simp only [Act.put, List.setIfInBounds_toArray, List.set_cons_succ, List.set_cons_zero])
      refine sL rfl rfl ?_
      go_wp2_with fail
      refine (class_any t _ _ (HV.out.ext (Ext.rfl' y).dr)).mono ?_
      rintro e w1 ⟨v, rfl, hv1, he1⟩
      obtain rfl : v = _ := hv1
      have hC1 : Ext y w1 := (Ext.rfl' y).dr.tr he1
      go_wp2_with fail
      refine SQ.mk hC1 ?_
      refine sL rfl rfl ?_
      go_wp2_with fail
      refine (class_any u _ _ (HX.out.ext hC1)).mono ?_
      rintro e w2 ⟨v, rfl, hv2, he2⟩
      obtain rfl : v = _ := hv2
      have hC2 : Ext y w2 := hC1.tr he2
      go_wp2_with fail
      refine SQ.mk hC2 ?_
      refine sL rfl rfl ?_
      go_wp2_with fail
      refine (ints_any _ _ _).mono ?_
      rintro e w1 ⟨rfl, rfl⟩
      go_wp2_with fail
      refine SQ.mk hC2 ?_
      iterate 1 (refine sQ rfl rfl ?_ ?_ ?_; rotate_left; (· (intro w' hw'; have zk0 := hw'.cellOf k0; have zk1 := hw'.cellOf k1; have zk2 := hw'.cellOf k2; have zk3 := hw'.cellOf k3; have zm0 := hw'.cellOf m0; have zm1 := hw'.cellOf m1; have zm2 := hw'.cellOf m2; have zm3 := hw'.cellOf m3; go_simp; try with_reducible rfl)); try simp only [Act.put, List.setIfInBounds_toArray, List.set_cons_succ, List.set_cons_zero])
      refine sE ?_
      have z0 := hC2.cellOf k0
      have z1 := hC2.cellOf k1
      have z2 := hC2.cellOf k2
      have z3 := hC2.cellOf k3
      go_wp2_with fail
      refine (class_any t _ _ (HV.out.ext hC2)).mono ?_
      rintro e w3 ⟨v, rfl, hv3, he3⟩
      obtain rfl : v = _ := hv3
      have hC3 : Ext y w3 := hC2.tr he3
      clear z0 z1 z2 z3
      have z0 := hC3.cellOf k0
      have z1 := hC3.cellOf k1
      have z2 := hC3.cellOf k2
      have z3 := hC3.cellOf k3
      have x0 := hC3.cellOf m0
      have x1 := hC3.cellOf m1
      have x2 := hC3.cellOf m2
      have x3 := hC3.cellOf m3
      go_wp2_with fail
      refine (ints_any _ _ _).mono ?_
      rintro e w1 ⟨rfl, rfl⟩
      go_wp2
      go_ret
      rw [HF4.out]
      exact Ret.mk rfl (hEy.tr hC3)
  · have HF1 : Hid (cmpT t u = cmpI (rankK t.k) (rankK u.k)) := by rw [HF.out]; unfold orI; rw [if_pos h1]; exact Lib.hid rfl
    have hb : (cmpI (rankK t.k) (rankK u.k) != 0) = true := by simpa using h1
    clear h1
    go_enter Try.func15, Try.ntmps15
    go_wp2_with fail
    have hB := two_boxes w #[.int .i64 t.k, .int .i64 t.i, .string t.s, .slice B t.ar.length d] #[.int .i64 u.k, .int .i64 u.i, .string u.s, .slice D u.ar.length d2] 24 24 0
    rw [World.drewN_zero] at hB
    generalize ((w.alloc (.cells #[.int .i64 t.k, .int .i64 t.i, .string t.s, .slice B t.ar.length d] 24)).alloc (.cells #[.int .i64 u.k, .int .i64 u.i, .string u.s, .slice D u.ar.length d2] 24)) = y at hB ⊢
    obtain ⟨hEy, hB1, hB2⟩ := hB
    have HV : Hid (VT y t _) := HV0.out.ext hEy
    have HX : Hid (VT y u _) := HX0.out.ext hEy
    have k0 : y.cell? ⟨w.heap.size, 0, none⟩ = some (.int .i64 t.k) := hB1 0
    have k1 : y.cell? ⟨w.heap.size, 1, none⟩ = some (.int .i64 t.i) := hB1 1
    have k2 : y.cell? ⟨w.heap.size, 2, none⟩ = some (.string t.s) := hB1 2
    have k3 : y.cell? ⟨w.heap.size, 3, none⟩ = some (.slice B t.ar.length d) := hB1 3
    have m0 : y.cell? ⟨w.heap.size + 1, 0, none⟩ = some (.int .i64 u.k) := hB2 0
    have m1 : y.cell? ⟨w.heap.size + 1, 1, none⟩ = some (.int .i64 u.i) := hB2 1
    have m2 : y.cell? ⟨w.heap.size + 1, 2, none⟩ = some (.string u.s) := hB2 2
    have m3 : y.cell? ⟨w.heap.size + 1, 3, none⟩ = some (.slice D u.ar.length d2) := hB2 3
    clear hB1 hB2
    refine wp_region_sched [(0, true), (2, true), (1, false), (3, false), (4, false), (5, true)] (by kernel_rfl) (by kernel_rfl) (Ext y) (Ext.rfl' y).dr ?_
    iterate 2 (refine sQ rfl rfl ?_ ?_ ?_; rotate_left; (· (intro w' hw'; have zk0 := hw'.cellOf k0; have zk1 := hw'.cellOf k1; have zk2 := hw'.cellOf k2; have zk3 := hw'.cellOf k3; have zm0 := hw'.cellOf m0; have zm1 := hw'.cellOf m1; have zm2 := hw'.cellOf m2; have zm3 := hw'.cellOf m3; go_simp; try with_reducible rfl)); try simp only [Act.put, List.setIfInBounds_toArray, List.set_cons_succ, List.set_cons_zero])
    refine sL rfl rfl ?_
    go_wp2_with fail
    refine (class_any t _ _ (HV.out.ext (Ext.rfl' y).dr)).mono ?_
    rintro e w1 ⟨v, rfl, hv1, he1⟩
    obtain rfl : v = _ := hv1
    have hC1 : Ext y w1 := (Ext.rfl' y).dr.tr he1
    go_wp2_with fail
    refine SQ.mk hC1 ?_
    refine sL rfl rfl ?_
    go_wp2_with fail
    refine (class_any u _ _ (HX.out.ext hC1)).mono ?_
    rintro e w2 ⟨v, rfl, hv2, he2⟩
    obtain rfl : v = _ := hv2
    have hC2 : Ext y w2 := hC1.tr he2
    go_wp2_with fail
    refine SQ.mk hC2 ?_
    refine sL rfl rfl ?_
    go_wp2_with fail
    refine (ints_any _ _ _).mono ?_
    rintro e w1 ⟨rfl, rfl⟩
    go_wp2_with fail
    refine SQ.mk hC2 ?_
    iterate 1 (refine sQ rfl rfl ?_ ?_ ?_; rotate_left; (· (intro w' hw'; have zk0 := hw'.cellOf k0; have zk1 := hw'.cellOf k1; have zk2 := hw'.cellOf k2; have zk3 := hw'.cellOf k3; have zm0 := hw'.cellOf m0; have zm1 := hw'.cellOf m1; have zm2 := hw'.cellOf m2; have zm3 := hw'.cellOf m3; go_simp; try with_reducible rfl)); try simp only [Act.put, List.setIfInBounds_toArray, List.set_cons_succ, List.set_cons_zero])
    refine sE ?_
    go_wp2
    go_ret
    rw [HF1.out]
    exact Ret.mk rfl (hEy.tr hC2)

def ListsRel (W : World) (ts us : List T) (v5 : Value) (wr : World) : Prop :=
  ∃ k : Nat, v5 = .int .i64 (k : Int) ∧ k ≤ ts.length ∧ k ≤ us.length ∧ Hid (cmpL ts us = cmpL (ts.drop k) (us.drop k)) ∧ Ext W wr

set_option maxRecDepth 100000 in
set_option maxHeartbeats 1600000 in
theorem lists_step (n : Nat) (hM : n ≤ 1000000)
    (HC : Hid (∀ (t u : T) (v x : Value) (w : World), wt t ≤ n → VT w t v → VT w u x → Calls Try.prog 15 #[v, x] w (Ret w (Is (.int .i64 (cmpT t u))))))
    (ts us : List T) (v x : Value) (w : World) (hn : wtL ts ≤ n) (hv : SlT w ts v) (hx : SlT w us x) : Calls Try.prog 60 #[v, x] w (Ret w (Is (.int .i64 (listsT ts us)))) := by
  have hv' := hv
  have hx' := hx
  obtain ⟨A, c, xs, rfl, -⟩ := hv
  obtain ⟨B, d, ys, rfl, -⟩ := hx
  have hll : ts.length ≤ 1000000 := by have := len_wtL ts; omega
  have HN : Hid (wtL ts ≤ n) := hn
  clear hn
  go_enter Try.func60, Try.ntmps60
  go_wp2
  go_loopw [5, 6] (fun v5 _ wr => ListsRel w ts us v5 wr) (fun v5 _ _ => ts.length - (intOf v5).toNat)
  case atStart => exact ⟨0, rfl, by omega, by omega, Lib.hid rfl, Ext.rfl' w⟩
  case round =>
    obtain ⟨k, rfl, hk, hk2, hi, he⟩ := hrel
    by_cases hlt : k < ts.length
    · by_cases hlu : k < us.length
      · obtain ⟨t, ht⟩ : ∃ t, ts[k]? = some t := ⟨ts[k], List.getElem?_eq_getElem hlt⟩
        obtain ⟨u, hu⟩ : ∃ u, us[k]? = some u := ⟨us[k], List.getElem?_eq_getElem hlu⟩
        obtain ⟨b, o, sl, rfl, c0, c1, c2, c3, -, hvt⟩ := (hv'.ext he).at_ ht
        obtain ⟨b2, o2, sx, rfl, m0, m1, m2, m3, -, hvu⟩ := (hx'.ext he).at_ hu
        rw [cmpL_drop ht hu] at hi
        have HW : Hid (wt t ≤ n) := by have := wt_mem (List.mem_of_getElem? ht); have := HN.out; exact Lib.hid (by omega)
        clear ht hu
        go_wp2_with fail
        refine wp_region_sched [(0, true), (1, true), (2, true), (3, true), (4, true), (5, true), (6, true), (7, true), (8, false), (9, true)] (by kernel_rfl) (by kernel_rfl) (Ext wr) (Ext.rfl' wr).dr ?_
        iterate 8 (refine sQ rfl rfl ?_ ?_ ?_; rotate_left; (· (intro w' hw'; have zc0 := hw'.cellOf c0; have zc1 := hw'.cellOf c1; have zc2 := hw'.cellOf c2; have zc3 := hw'.cellOf c3; have zm0 := hw'.cellOf m0; have zm1 := hw'.cellOf m1; have zm2 := hw'.cellOf m2; have zm3 := hw'.cellOf m3; go_simp; try with_reducible rfl)); try simp only [Act.put, List.setIfInBounds_toArray, List.set_cons_succ, List.set_cons_zero])
        refine sL rfl rfl ?_
        go_wp2_with fail
        refine ((unhide HC) t u _ _ _ HW.out (hvt.ext (Ext.rfl' wr).dr) (hvu.ext (Ext.rfl' wr).dr)).mono ?_
        rintro e w2 ⟨v, rfl, hv2, he2⟩
        obtain rfl : v = _ := hv2
        have hE2 : Ext wr w2 := (Ext.rfl' wr).dr.tr he2
        go_wp2_with fail
        refine SQ.mk hE2 ?_
        iterate 1 (refine sQ rfl rfl ?_ ?_ ?_; rotate_left; (· (intro w' hw'; have zc0 := hw'.cellOf c0; have zc1 := hw'.cellOf c1; have zc2 := hw'.cellOf c2; have zc3 := hw'.cellOf c3; have zm0 := hw'.cellOf m0; have zm1 := hw'.cellOf m1; have zm2 := hw'.cellOf m2; have zm3 := hw'.cellOf m3; go_simp; try with_reducible rfl)); try simp only [Act.put, List.setIfInBounds_toArray, List.set_cons_succ, List.set_cons_zero])
        refine sE ?_
        by_cases h0 : cmpT t u = 0
        · have hb : (cmpT t u != 0) = false := by simpa using h0
          have HI : Hid (cmpL ts us = cmpL (ts.drop (k + 1)) (us.drop (k + 1))) := by rw [hi.out]; unfold orI; rw [if_neg (by simpa using h0)]; exact Lib.hid rfl
          clear h0
          go_wp2
          go_roundw
          case rel => exact ⟨k + 1, by go_num, by omega, by omega, HI, he.tr hE2⟩
          case measure => simp [intOf]; omega
        · have hb : (cmpT t u != 0) = true := by simpa using h0
          have HI : Hid (listsT ts us = cmpT t u) := by
            unfold listsT; rw [hi.out]; unfold orI; rw [if_pos h0, if_pos h0]; exact Lib.hid rfl
          clear h0
          go_wp2
          go_ret
          rw [HI.out]
          exact Ret.mk rfl (he.tr hE2)
      · have HI : Hid (listsT ts us = cmpI ts.length us.length) := by
          rw [List.drop_eq_nil_of_le (show us.length ≤ k by omega), cmpL_nil2] at hi
          unfold listsT; rw [hi.out]; unfold orI; rw [if_neg (by simp)]; exact Lib.hid rfl
        go_wp2_with fail
        refine (ints_any _ _ _).mono ?_
        rintro e w1 ⟨rfl, rfl⟩
        go_wp2
        go_ret
        rw [HI.out]
        exact Ret.mk rfl he
    · have HI : Hid (listsT ts us = cmpI ts.length us.length) := by
        rw [List.drop_eq_nil_of_le (show ts.length ≤ k by omega)] at hi
        have h0 : cmpL ts us = 0 := by rw [hi.out]; simp only [cmpL]
        unfold listsT; rw [h0]; unfold orI; rw [if_neg (by simp)]; exact Lib.hid rfl
      go_wp2_with fail
      refine (ints_any _ _ _).mono ?_
      rintro e w1 ⟨rfl, rfl⟩
      go_wp2
      go_ret
      rw [HI.out]
      exact Ret.mk rfl he

theorem refCompare_any : ∀ (n : Nat), n ≤ 1000000 → ∀ (t u : T) (v x : Value) (w : World), wt t ≤ n → VT w t v → VT w u x → Calls Try.prog 15 #[v, x] w (Ret w (Is (.int .i64 (cmpT t u))))
  | 0, _, t, _, _, _, _, hn, _, _ => by rw [wt_eq] at hn; omega
  | n + 1, hM, t, u, v, x, w, hn, hv, hx =>
    refCompare_step n (Lib.hid fun ts us v u w h1 h2 h3 => lists_step n (by omega) (Lib.hid (refCompare_any n (by omega))) ts us v u w h1 h2 h3) t u v x w (by rw [wt_eq] at hn; omega) hv hx
theorem lists_any (n : Nat) (hM : n ≤ 1000000) (ts us : List T) (v x : Value) (w : World) (hn : wtL ts ≤ n) (hv : SlT w ts v) (hx : SlT w us x) : Calls Try.prog 60 #[v, x] w (Ret w (Is (.int .i64 (listsT ts us)))) :=
  lists_step n hM (Lib.hid (refCompare_any n hM)) ts us v x w hn hv hx

def sameT (t u : T) : Bool := cmpT t u == 0

theorem same_any (n : Nat) (hM : n ≤ 1000000) (t u : T) (v x : Value) (w : World) (hn : wt t ≤ n) (hv : VT w t v) (hx : VT w u x) : Calls Try.prog 16 #[v, x] w (Ret w (Is (.bool (sameT t u)))) := by
  have hC := hide (fun w' (e : Ext w w') => compare_any n hM t u v x w' hn (hv.ext e) (hx.ext e))
  obtain ⟨sl, rfl, hs, -⟩ := hv.open_
  obtain ⟨sx, rfl, hy, -⟩ := hx.open_
  obtain ⟨B, d, xs, rfl, -⟩ := hs
  obtain ⟨D, d2, ys, rfl, -⟩ := hy
  clear hv hx
  go_enter Try.func16, Try.ntmps16
  go_wp2_with fail
  refine ((unhide hC) _ (((Ext.rfl' w).al _).al _)).mono ?_
  rintro e w1 ⟨v, rfl, hv, he⟩
  obtain rfl : v = _ := hv
  go_wp2
  go_ret
  exact Ret.mk rfl ((((Ext.rfl' w).al _).al _).tr he)
theorem refSame_any (n : Nat) (hM : n ≤ 1000000) (t u : T) (v x : Value) (w : World) (hn : wt t ≤ n) (hv : VT w t v) (hx : VT w u x) : Calls Try.prog 17 #[v, x] w (Ret w (Is (.bool (sameT t u)))) := by
  have hC := hide (fun w' (e : Ext w w') => refCompare_any n hM t u v x w' hn (hv.ext e) (hx.ext e))
  obtain ⟨sl, rfl, hs, -⟩ := hv.open_
  obtain ⟨sx, rfl, hy, -⟩ := hx.open_
  obtain ⟨B, d, xs, rfl, -⟩ := hs
  obtain ⟨D, d2, ys, rfl, -⟩ := hy
  clear hv hx
  go_enter Try.func17, Try.ntmps17
  go_wp2_with fail
  refine ((unhide hC) _ (((Ext.rfl' w).al _).al _)).mono ?_
  rintro e w1 ⟨v, rfl, hv, he⟩
  obtain rfl : v = _ := hv
  go_wp2
  go_ret
  exact Ret.mk rfl ((((Ext.rfl' w).al _).al _).tr he)
end Go.Proofs.Ytcjbageaiafbmaa
