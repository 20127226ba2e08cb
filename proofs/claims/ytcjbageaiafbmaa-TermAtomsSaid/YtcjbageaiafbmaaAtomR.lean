/-
  Constraints and goals: the reference's validity; the comparison and the identity of both; the measure of lists of them.
-/
import Derived.Test.YtcjbageaiafbmaaAtom
import Derived.Test.YtcjbageaiafbmaaLay
import Derived.Test.YtcjbageaiafbmaaCompR
import Derived.Test.YtcjbageaiafbmaaOrd
namespace Go.Proofs.Ytcjbageaiafbmaa
open Go.RowKit

def layA : Lay At where
  C := CA
  n := 2
  pos := by omega
  ext := fun h e => h.ext e
  len := fun ⟨_, h, _⟩ => by rw [h]; rfl
  one := fun ⟨_, h, ⟨_, _, _, hs, _⟩, _⟩ u hu => by
    subst h hs
    simp at hu
    rcases hu with rfl | rfl <;> rfl
def layG : Lay Gl where
  C := CG
  n := 3
  pos := by omega
  ext := fun h e => h.ext e
  len := fun ⟨_, h, _⟩ => by rw [h]; rfl
  one := fun ⟨_, h, ⟨_, _, _, hs, _⟩, _⟩ u hu => by
    subst h hs
    simp at hu
    rcases hu with rfl | rfl | rfl <;> rfl
/-- One of the constraints that a slice holds. -/
theorem slA_at {w : World} {l : List At} {A : Option Addr} {n c : Nat} (h : layA.Sl w l (.slice A n c)) {i : Nat} {a : At} (hi : l[i]? = some a) :
    ∃ b o sl, A = some ⟨b, o, none⟩ ∧ w.cell? ⟨b, o + i * 2, none⟩ = some (.string a.n) ∧ w.cell? ⟨b, o + i * 2 + 1, none⟩ = some sl ∧ SlT w a.ts sl ∧ VA w a (.agg #[.string a.n, sl]) := by
  obtain ⟨b, o, cs, h1, ⟨sl, rfl, h2, h4⟩, h3⟩ := h.at_ hi
  exact ⟨b, o, sl, h1, h3 0 (by decide), h3 1 (by decide), h2, VA.mk h2 h4⟩
theorem slG_at {w : World} {l : List Gl} {A : Option Addr} {n c : Nat} (h : layG.Sl w l (.slice A n c)) {i : Nat} {a : Gl} (hi : l[i]? = some a) :
    ∃ b o sl, A = some ⟨b, o, none⟩ ∧ w.cell? ⟨b, o + i * 3, none⟩ = some (.int .i64 a.op) ∧ w.cell? ⟨b, o + i * 3 + 1, none⟩ = some (.string a.n) ∧ w.cell? ⟨b, o + i * 3 + 2, none⟩ = some sl ∧ SlT w a.ts sl ∧ VG w a (.agg #[.int .i64 a.op, .string a.n, sl]) := by
  obtain ⟨b, o, cs, h1, ⟨sl, rfl, h2, h4, h5⟩, h3⟩ := h.at_ hi
  exact ⟨b, o, sl, h1, h3 0 (by decide), h3 1 (by decide), h3 2 (by decide), h2, VG.mk h2 h4 h5⟩

theorem arity_any (op : Int) (w : World) : Calls Try.prog 66 #[.int .i64 op] w (SameI w (arityG op)) := by
  go_enter Try.func66, Try.ntmps66
  go_wp2
  all_goals go_ret
  all_goals (refine SameI.mk ?_; unfold arityG; (repeat' split) <;> first | rfl | (exfalso; simp at *; omega))

theorem refRightAtom_any (n : Nat) (hM : n ≤ 1000000) (a : At) (v : Value) (w : World) (hn : wtL a.ts ≤ n) (hv : VA w a v) : Calls Try.prog 34 #[v] w (Ret w (Is (.bool (rightA a)))) := by
  obtain ⟨sl, rfl, hs, hz⟩ := hv.open_
  have hC := hide (fun (w' : World) (e : Ext w w') => refArgsR_any n hM a.ts sl w' hn (hs.ext e))
  obtain ⟨A, c, xs, rfl, -⟩ := hs
  have hnm := hide (refName_any a.n (Lib.hid hz))
  have HE := hide (fun o => (Ext.rfl' w).al o)
  clear hv hn hz
  by_cases hj : isName a.n
  · rw [hj] at hnm
    by_cases h6 : a.ts.length ≤ 6
    · have HR : Hid (rightA a = rightL a.ts) := Lib.hid (by unfold rightA; simp [hj, h6])
      have h6' : (a.ts.length : Int) ≤ 6 := by omega
      clear hj h6
      go_enter Try.func34, Try.ntmps34
      go_wp2_with fail
      refine ((unhide hnm) _).mono ?_
      rintro e w1 ⟨rfl, rfl⟩
      go_wp2_with fail
      refine ((unhide hC) _ ((unhide HE) _)).mono ?_
      rintro e w2 ⟨v, rfl, hv, he⟩
      obtain rfl : v = _ := hv
      have he := hide (((unhide HE) _).tr he)
      go_wp2
      go_ret
      exact Ret.mk (HR.out ▸ rfl) (unhide he)
    · have HR : Hid (rightA a = false) := Lib.hid (by unfold rightA; simp [h6])
      have h6' : ¬ (a.ts.length : Int) ≤ 6 := by omega
      clear hj h6
      go_enter Try.func34, Try.ntmps34
      go_wp2_with fail
      refine ((unhide hnm) _).mono ?_
      rintro e w1 ⟨rfl, rfl⟩
      go_wp2
      go_ret
      exact Ret.mk (HR.out ▸ rfl) ((unhide HE) _)
  · have hj' : isName a.n = false := by simpa using hj
    rw [hj'] at hnm
    have HR : Hid (rightA a = false) := Lib.hid (by unfold rightA; simp [hj])
    clear hj hj'
    go_enter Try.func34, Try.ntmps34
    go_wp2_with fail
    refine ((unhide hnm) _).mono ?_
    rintro e w1 ⟨rfl, rfl⟩
    go_wp2
    go_ret
    exact Ret.mk (HR.out ▸ rfl) ((unhide HE) _)

set_option maxHeartbeats 1000000 in
theorem refRightGoal_any (n : Nat) (hM : n ≤ 1000000) (g : Gl) (v : Value) (w : World) (hn : wtL g.ts ≤ n) (hv : VG w g v) : Calls Try.prog 27 #[v] w (Ret w (Is (.bool (rightG g)))) := by
  obtain ⟨sl, rfl, hs, ho, hz⟩ := hv.open_
  have hC := hide (fun (w' : World) (e : Ext w w') => refArgsR_any n hM g.ts sl w' hn (hs.ext e))
  have hCA := hide (fun (w' : World) (e : Ext w w') => refRightAtom_any n hM ⟨g.n, g.ts⟩ _ w' hn (VA.mk (hs.ext e) hz))
  obtain ⟨A, c, xs, rfl, -⟩ := hs
  obtain ⟨y, hy⟩ : ∃ y, w.alloc (.cells #[.int .i64 g.op, .string g.n, .slice A g.ts.length c] 39) = y := ⟨_, rfl⟩
  have HE : Hid (Ext w y) := Lib.hid (by rw [← hy]; exact (Ext.rfl' w).al _)
  have b0 : y.cell? ⟨w.heap.size, 0, none⟩ = some (.int .i64 g.op) := by rw [← hy]; exact box_cells w _ _ 0 _ rfl
  have b1 : y.cell? ⟨w.heap.size, 1, none⟩ = some (.string g.n) := by rw [← hy]; exact box_cells w _ _ 1 _ rfl
  have b2 : y.cell? ⟨w.heap.size, 2, none⟩ = some (.slice A g.ts.length c) := by rw [← hy]; exact box_cells w _ _ 2 _ rfl
  clear hv hn hz ho
  by_cases h0 : g.op = 0
  · have HR : Hid (rightG g = rightA ⟨g.n, g.ts⟩) := Lib.hid (by unfold rightG; rw [if_pos h0])
    have k0 : (g.op == 0) = true := by simpa using h0
    clear h0
    go_enter Try.func27, Try.ntmps27
    go_wp2_with fail
    refine ((unhide hCA) _ HE.out).mono ?_
    rintro e w1 ⟨v, rfl, hv, he⟩
    obtain rfl : v = _ := hv
    have he := hide (HE.out.tr he)
    go_wp2
    go_ret
    exact Ret.mk (HR.out ▸ rfl) (unhide he)
  have HR : Hid (rightG g = (decide (g.n.toList = []) && decide (arityG g.op = (g.ts.length : Int)) && rightL g.ts)) := Lib.hid (by unfold rightG; rw [if_neg h0])
  have k0 : (g.op == 0) = false := by simpa using h0
  clear h0
  by_cases hs : g.n.toList = []
  · have hse : g.n.toList.isEmpty = true := by simp [hs]
    by_cases hl : arityG g.op = (g.ts.length : Int)
    · have HX : Hid (rightG g = rightL g.ts) := Lib.hid (by rw [HR.out]; simp [hs, hl])
      have HA := Lib.hid hl
      clear hs hl
      go_enter Try.func27, Try.ntmps27
      go_wp2_with fail
      refine wp_region_sched [(0, true), (1, true), (2, true), (3, true), (4, true), (5, true), (7, true), (8, true), (9, true), (6, false), (10, true), (11, true), (12, true), (13, true), (14, true), (15, false), (16, true), (17, true)] (by kernel_rfl) (by kernel_rfl) (Ext y) (Ext.rfl' y).dr ?_
      iterate 9 (refine sQ rfl rfl ?_ ?_ ?_; rotate_left; (· (intro w' hw'; have z0 := hw'.cellOf b0; have z1 := hw'.cellOf b1; have z2 := hw'.cellOf b2; go_simp; try with_reducible rfl)); try simp only [Act.put, List.setIfInBounds_toArray, List.set_cons_succ, List.set_cons_zero])
      refine sL rfl rfl ?_
      go_wp2_with fail
      refine (arity_any _ _).mono ?_
      rintro e w1 ⟨rfl, rfl⟩
      rw [HA.out]
      go_wp2_with fail
      refine SQ.mk (Ext.rfl' y).dr ?_
      iterate 5 (refine sQ rfl rfl ?_ ?_ ?_; rotate_left; (· (intro w' hw'; have z0 := hw'.cellOf b0; have z1 := hw'.cellOf b1; have z2 := hw'.cellOf b2; go_simp; try with_reducible rfl)); try simp only [Act.put, List.setIfInBounds_toArray, List.set_cons_succ, List.set_cons_zero])
      refine sL rfl rfl ?_
      go_wp2_with fail
      refine ((unhide hC) _ (HE.out.tr (Ext.rfl' y).dr)).mono ?_
      rintro e w2 ⟨v, rfl, hv, he⟩
      obtain rfl : v = _ := hv
      have hE2 := (Ext.rfl' y).dr.tr he
      clear he
      go_wp2_with fail
      refine SQ.mk hE2 ?_
      iterate 2 (refine sQ rfl rfl ?_ ?_ ?_; rotate_left; (· (intro w' hw'; have z0 := hw'.cellOf b0; have z1 := hw'.cellOf b1; have z2 := hw'.cellOf b2; go_simp; try with_reducible rfl)); try simp only [Act.put, List.setIfInBounds_toArray, List.set_cons_succ, List.set_cons_zero])
      refine sE ?_
      go_wp2
      go_ret
      exact Ret.mk (HX.out ▸ rfl) (HE.out.tr hE2)
    · have HX : Hid (rightG g = false) := Lib.hid (by rw [HR.out]; simp [hl])
      obtain ⟨ar, har⟩ : ∃ ar, arityG g.op = ar := ⟨_, rfl⟩
      have HA := Lib.hid har
      have hne : (ar == (g.ts.length : Int)) = false := by rw [← har]; simpa using hl
      clear hs hl har
      go_enter Try.func27, Try.ntmps27
      go_wp2_with fail
      refine wp_region_sched [(0, true), (1, true), (2, true), (3, true), (4, true), (5, true), (7, true), (8, true), (9, true), (6, false), (10, true), (11, true), (12, true), (13, true), (14, true), (15, false), (16, true), (17, true)] (by kernel_rfl) (by kernel_rfl) (Ext y) (Ext.rfl' y).dr ?_
      iterate 9 (refine sQ rfl rfl ?_ ?_ ?_; rotate_left; (· (intro w' hw'; have z0 := hw'.cellOf b0; have z1 := hw'.cellOf b1; have z2 := hw'.cellOf b2; go_simp; try with_reducible rfl)); try simp only [Act.put, List.setIfInBounds_toArray, List.set_cons_succ, List.set_cons_zero])
      refine sL rfl rfl ?_
      go_wp2_with fail
      refine (arity_any _ _).mono ?_
      rintro e w1 ⟨rfl, rfl⟩
      rw [HA.out]
      go_wp2_with fail
      refine SQ.mk (Ext.rfl' y).dr ?_
      iterate 3 (refine sQ rfl rfl ?_ ?_ ?_; rotate_left; (· (intro w' hw'; have z0 := hw'.cellOf b0; have z1 := hw'.cellOf b1; have z2 := hw'.cellOf b2; go_simp; try with_reducible rfl)); try simp only [Act.put, List.setIfInBounds_toArray, List.set_cons_succ, List.set_cons_zero])
      iterate 2 (refine sN rfl rfl ?_; simp only [Act.put, List.setIfInBounds_toArray, List.set_cons_succ, List.set_cons_zero])
      (refine sM rfl rfl ?_; simp only [Act.put, List.setIfInBounds_toArray, List.set_cons_succ, List.set_cons_zero])
      iterate 2 (refine sQ rfl rfl ?_ ?_ ?_; rotate_left; (· (intro w' hw'; have z0 := hw'.cellOf b0; have z1 := hw'.cellOf b1; have z2 := hw'.cellOf b2; go_simp; try with_reducible rfl)); try simp only [Act.put, List.setIfInBounds_toArray, List.set_cons_succ, List.set_cons_zero])
      refine sE ?_
      go_wp2
      go_ret
      exact Ret.mk (HX.out ▸ rfl) (HE.out.tr (Ext.rfl' y).dr)
  · have hse : g.n.toList.isEmpty = false := by simpa using hs
    have HX : Hid (rightG g = false) := Lib.hid (by rw [HR.out]; simp [hs])
    clear hs
    go_enter Try.func27, Try.ntmps27
    go_wp2_with fail
    refine wp_region_sched [(0, true), (1, true), (2, true), (3, true), (4, true), (5, true), (7, true), (8, true), (9, true), (6, false), (10, true), (11, true), (12, true), (13, true), (14, true), (15, false), (16, true), (17, true)] (by kernel_rfl) (by kernel_rfl) (Ext y) (Ext.rfl' y).dr ?_
    iterate 4 (refine sQ rfl rfl ?_ ?_ ?_; rotate_left; (· (intro w' hw'; have z0 := hw'.cellOf b0; have z1 := hw'.cellOf b1; have z2 := hw'.cellOf b2; go_simp; try with_reducible rfl)); try simp only [Act.put, List.setIfInBounds_toArray, List.set_cons_succ, List.set_cons_zero])
    iterate 5 (refine sN rfl rfl ?_; simp only [Act.put, List.setIfInBounds_toArray, List.set_cons_succ, List.set_cons_zero])
    (refine sM rfl rfl ?_; simp only [Act.put, List.setIfInBounds_toArray, List.set_cons_succ, List.set_cons_zero])
    iterate 1 (refine sN rfl rfl ?_; simp only [Act.put, List.setIfInBounds_toArray, List.set_cons_succ, List.set_cons_zero])
    iterate 2 (refine sQ rfl rfl ?_ ?_ ?_; rotate_left; (· (intro w' hw'; have z0 := hw'.cellOf b0; have z1 := hw'.cellOf b1; have z2 := hw'.cellOf b2; go_simp; try with_reducible rfl)); try simp only [Act.put, List.setIfInBounds_toArray, List.set_cons_succ, List.set_cons_zero])
    iterate 2 (refine sN rfl rfl ?_; simp only [Act.put, List.setIfInBounds_toArray, List.set_cons_succ, List.set_cons_zero])
    (refine sM rfl rfl ?_; simp only [Act.put, List.setIfInBounds_toArray, List.set_cons_succ, List.set_cons_zero])
    iterate 2 (refine sQ rfl rfl ?_ ?_ ?_; rotate_left; (· (intro w' hw'; have z0 := hw'.cellOf b0; have z1 := hw'.cellOf b1; have z2 := hw'.cellOf b2; go_simp; try with_reducible rfl)); try simp only [Act.put, List.setIfInBounds_toArray, List.set_cons_succ, List.set_cons_zero])
    refine sE ?_
    go_wp2
    go_ret
    exact Ret.mk (HX.out ▸ rfl) (HE.out.tr (Ext.rfl' y).dr)
end Go.Proofs.Ytcjbageaiafbmaa
