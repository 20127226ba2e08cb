/-
  Constraints and goals compared: CompareAtom, SameAtom, SameGoal of both; GreatAtoms and GreatGoals.
-/
import Derived.Test.YtcjbageaiafbmaaAtomR
import Derived.Test.YtcjbageaiafbmaaLive
namespace Go.Proofs.Ytcjbageaiafbmaa
open Go.RowKit

/-- Constraints compared: their names, their numbers of arguments, their arguments. -/
def cmpA (a b : At) : Int := orI (orI (cmpS a.n b.n) (cmpI a.ts.length b.ts.length)) (cmpL a.ts b.ts)
theorem orL2 (x y : Int) : orL [x, y] = orI x y := by
  unfold orI
  simp only [orL]
  by_cases h : x = 0 <;> by_cases k : y = 0 <;> simp [h, k]
theorem sgn_S (a b : ByteArray) : Sgn (cmpS a b) := sgn_B _ _


set_option maxHeartbeats 1000000 in
theorem cmpAtom_any (n : Nat) (hM : n ≤ 1000000) (a b : At) (v x : Value) (w : World) (hn : wtL a.ts ≤ n) (hv : VA w a v) (hx : VA w b x) : Calls Try.prog 37 #[v, x] w (Ret w (Is (.int .i64 (cmpA a b)))) := by
  obtain ⟨sa, rfl, hsa, -⟩ := hv.open_
  obtain ⟨sb, rfl, hsb, -⟩ := hx.open_
  have hC := hide (fun (w' : World) (e : Ext w w') (h : a.ts.length = b.ts.length) => list_any n hM a.ts b.ts sa sb w' hn h (hsa.ext e) (hsb.ext e))
  obtain ⟨Aa, ca, xsa, rfl, -⟩ := hsa
  obtain ⟨Ab, cb, xsb, rfl, -⟩ := hsb
  clear hv hx hn
  obtain ⟨y, hy⟩ : ∃ y, ((w.alloc (.cells #[.string a.n, .slice Aa a.ts.length ca] 46)).alloc (.cells #[.string b.n, .slice Ab b.ts.length cb] 46)) = y := ⟨_, rfl⟩
  have HE : Hid (Ext w y) := Lib.hid (by rw [← hy]; exact (((Ext.rfl' w).al _).al _))
  have ba0 : y.cell? ⟨w.heap.size, 0, none⟩ = some (.string a.n) := by rw [← hy]; exact ((Ext.rfl' _).al _).cellOf (box_at w #[.string a.n, .slice Aa a.ts.length ca] 46 0 _ (w.heap.size) (by simp) rfl)
  have ba1 : y.cell? ⟨w.heap.size, 1, none⟩ = some (.slice Aa a.ts.length ca) := by rw [← hy]; exact ((Ext.rfl' _).al _).cellOf (box_at w #[.string a.n, .slice Aa a.ts.length ca] 46 1 _ (w.heap.size) (by simp) rfl)
  have bb0 : y.cell? ⟨w.heap.size + 1, 0, none⟩ = some (.string b.n) := by rw [← hy]; exact box_at (w.alloc (.cells #[.string a.n, .slice Aa a.ts.length ca] 46)) #[.string b.n, .slice Ab b.ts.length cb] 46 0 _ (w.heap.size + 1) (by simp) rfl
  have bb1 : y.cell? ⟨w.heap.size + 1, 1, none⟩ = some (.slice Ab b.ts.length cb) := by rw [← hy]; exact box_at (w.alloc (.cells #[.string a.n, .slice Aa a.ts.length ca] 46)) #[.string b.n, .slice Ab b.ts.length cb] 46 1 _ (w.heap.size + 1) (by simp) rfl
  have HS := Lib.hid (sgn_or (sgn_S a.n b.n) (sgn_I a.ts.length b.ts.length))
  obtain ⟨q, hq⟩ : ∃ q, orI (cmpS a.n b.n) (cmpI a.ts.length b.ts.length) = q := ⟨_, rfl⟩
  have HQ := Lib.hid hq
  have HA : Hid (cmpA a b = orI q (cmpL a.ts b.ts)) := Lib.hid (by unfold cmpA; rw [hq])
  clear hq
  go_enter Try.func37, Try.ntmps37
  go_wp2_with fail
  refine wp_region_sched [(0, true), (1, true), (2, true), (3, true), (5, true), (6, true), (7, true), (8, true), (9, true), (10, true), (4, false), (11, false), (12, false), (13, false), (14, true)] (by kernel_rfl) (by kernel_rfl) (Ext y) (Ext.rfl' y).dr ?_
  iterate 10 (refine sQ rfl rfl ?_ ?_ ?_; rotate_left; (· (intro w' hw'; have za0 := hw'.cellOf ba0; have za1 := hw'.cellOf ba1; have zb0 := hw'.cellOf bb0; have zb1 := hw'.cellOf bb1; go_simp; try with_reducible rfl)); try simp only [Act.put, List.setIfInBounds_toArray, List.set_cons_succ, List.set_cons_zero])
  refine sL rfl rfl ?_
  go_wp2_with fail
  refine (cmpS_any _ _ _).mono ?_
  rintro e w1 ⟨rfl, rfl⟩
  skip
  go_wp2_with fail
  refine SQ.mk (Ext.rfl' y).dr ?_
  refine sL rfl rfl ?_
  go_wp2_with fail
  refine (cmpI_any _ _ _).mono ?_
  rintro e w2 ⟨rfl, rfl⟩
  skip
  go_wp2_with fail
  refine SQ.mk (Ext.rfl' y).dr ?_
  refine sL rfl rfl ?_
  go_wp2_with fail
  refine SQ.mk (((Ext.rfl' y).al _).dr) ?_
  refine sL rfl rfl ?_
  go_wp2_with fail
  refine (or_any _ 2 2 [cmpS a.n b.n, cmpI a.ts.length b.ts.length] _ rfl ((Rd.newAt y _ #[.int .i64 (cmpS a.n b.n), .int .i64 (cmpI a.ts.length b.ts.length)] 3 rfl).ext (Ext.rfl' _).dr) (by omega)).mono ?_
  rintro e w3 ⟨rfl, rfl⟩
  rw [orL2]
  go_wp2_with fail
  refine SQ.mk (((Ext.rfl' y).al _).dr) ?_
  iterate 1 (refine sQ rfl rfl ?_ ?_ ?_; rotate_left; (· (intro w' hw'; have za0 := hw'.cellOf ba0; have za1 := hw'.cellOf ba1; have zb0 := hw'.cellOf bb0; have zb1 := hw'.cellOf bb1; go_simp; try with_reducible rfl)); try simp only [Act.put, List.setIfInBounds_toArray, List.set_cons_succ, List.set_cons_zero])
  refine sE ?_
  rw [HQ.out]
  have hE3 := ((Ext.rfl' y).al (.cells #[.int .i64 (cmpS a.n b.n), .int .i64 (cmpI a.ts.length b.ts.length)] 3)).dr
  have za0 := (hE3).cellOf ba0
  have za1 := (hE3).cellOf ba1
  have zb0 := (hE3).cellOf bb0
  have zb1 := (hE3).cellOf bb1
  by_cases h0 : q = 0
  · have hb : (q != 0) = false := by simpa using h0
    have hlen : Hid (a.ts.length = b.ts.length) := Lib.hid (by
      have h1 := HQ.out
      rw [h0] at h1
      unfold orI at h1
      split at h1
      · rename_i h2; exact absurd h1 h2
      · have := cmpI_zero h1; omega)
    have HZ : Hid (cmpA a b = cmpL a.ts b.ts) := Lib.hid (by rw [HA.out]; unfold orI; rw [if_neg (by simpa using h0)])
    clear h0
    go_wp2_with fail
    refine ((unhide hC) _ (HE.out.tr hE3) hlen.out).mono ?_
    rintro e w4 ⟨v, rfl, hv, he⟩
    obtain rfl : v = _ := hv
    have he := hide ((HE.out.tr hE3).tr he)
    go_wp2
    go_ret
    rw [HZ.out]
    exact Ret.mk rfl (unhide he)
  · have hb : (q != 0) = true := by simpa using h0
    have HZ : Hid (cmpA a b = q) := Lib.hid (by rw [HA.out]; unfold orI; rw [if_pos h0])
    clear h0
    go_wp2
    go_ret
    rw [HZ.out]
    exact Ret.mk rfl (HE.out.tr hE3)

set_option maxHeartbeats 1000000 in
theorem refCmpAtom_any (n : Nat) (hM : n ≤ 1000000) (a b : At) (v x : Value) (w : World) (hn : wtL a.ts ≤ n) (hv : VA w a v) (hx : VA w b x) : Calls Try.prog 38 #[v, x] w (Ret w (Is (.int .i64 (cmpA a b)))) := by
  obtain ⟨sa, rfl, hsa, -⟩ := hv.open_
  obtain ⟨sb, rfl, hsb, -⟩ := hx.open_
  have hC := hide (fun (w' : World) (e : Ext w w') => lists_any n hM a.ts b.ts sa sb w' hn (hsa.ext e) (hsb.ext e))
  obtain ⟨Aa, ca, xsa, rfl, -⟩ := hsa
  obtain ⟨Ab, cb, xsb, rfl, -⟩ := hsb
  clear hv hx hn
  obtain ⟨y, hy⟩ : ∃ y, ((w.alloc (.cells #[.string a.n, .slice Aa a.ts.length ca] 46)).alloc (.cells #[.string b.n, .slice Ab b.ts.length cb] 46)) = y := ⟨_, rfl⟩
  have HE : Hid (Ext w y) := Lib.hid (by rw [← hy]; exact (((Ext.rfl' w).al _).al _))
  have ba0 : y.cell? ⟨w.heap.size, 0, none⟩ = some (.string a.n) := by rw [← hy]; exact ((Ext.rfl' _).al _).cellOf (box_at w #[.string a.n, .slice Aa a.ts.length ca] 46 0 _ (w.heap.size) (by simp) rfl)
  have ba1 : y.cell? ⟨w.heap.size, 1, none⟩ = some (.slice Aa a.ts.length ca) := by rw [← hy]; exact ((Ext.rfl' _).al _).cellOf (box_at w #[.string a.n, .slice Aa a.ts.length ca] 46 1 _ (w.heap.size) (by simp) rfl)
  have bb0 : y.cell? ⟨w.heap.size + 1, 0, none⟩ = some (.string b.n) := by rw [← hy]; exact box_at (w.alloc (.cells #[.string a.n, .slice Aa a.ts.length ca] 46)) #[.string b.n, .slice Ab b.ts.length cb] 46 0 _ (w.heap.size + 1) (by simp) rfl
  have bb1 : y.cell? ⟨w.heap.size + 1, 1, none⟩ = some (.slice Ab b.ts.length cb) := by rw [← hy]; exact box_at (w.alloc (.cells #[.string a.n, .slice Aa a.ts.length ca] 46)) #[.string b.n, .slice Ab b.ts.length cb] 46 1 _ (w.heap.size + 1) (by simp) rfl
  obtain ⟨p, hp⟩ : ∃ p, cmpS a.n b.n = p := ⟨_, rfl⟩
  obtain ⟨q, hq⟩ : ∃ q, cmpI a.ts.length b.ts.length = q := ⟨_, rfl⟩
  have HP := Lib.hid hp
  have HQ := Lib.hid hq
  have HA : Hid (cmpA a b = orI (orI p q) (cmpL a.ts b.ts)) := Lib.hid (by unfold cmpA; rw [hp, hq])
  clear hp hq
  by_cases h0 : p = 0
  · have hb0 : (p == 0) = true := by simpa using h0
    by_cases h1 : q = 0
    · have hb1 : (q == 0) = true := by simpa using h1
      have hlen : Hid (a.ts.length = b.ts.length) := Lib.hid (by
        have := cmpI_zero (HQ.out.trans h1)
        omega)
      have HZ : Hid (cmpA a b = listsT a.ts b.ts) := Lib.hid (by rw [HA.out, listsT_same hlen.out]; unfold orI; simp [h0, h1])
      clear h0 h1
      go_enter Try.func38, Try.ntmps38
      go_wp2_with fail
      refine (texts_any _ _ _).mono ?_
      rintro e w1 ⟨rfl, rfl⟩
      rw [HP.out]
      go_wp2_with fail
      refine (ints_any _ _ _).mono ?_
      rintro e w2 ⟨rfl, rfl⟩
      rw [HQ.out]
      go_wp2_with fail
      refine ((unhide hC) _ HE.out).mono ?_
      rintro e w4 ⟨v, rfl, hv, he⟩
      obtain rfl : v = _ := hv
      have he := hide (HE.out.tr he)
      go_wp2
      go_ret
      rw [HZ.out]
      exact Ret.mk rfl (unhide he)
    · have hb1 : (q == 0) = false := by simpa using h1
      have HZ : Hid (cmpA a b = q) := Lib.hid (by rw [HA.out]; unfold orI; simp [h0, h1])
      clear h0 h1
      go_enter Try.func38, Try.ntmps38
      go_wp2_with fail
      refine (texts_any _ _ _).mono ?_
      rintro e w1 ⟨rfl, rfl⟩
      rw [HP.out]
      go_wp2_with fail
      refine (ints_any _ _ _).mono ?_
      rintro e w2 ⟨rfl, rfl⟩
      rw [HQ.out]
      go_wp2
      go_ret
      rw [HZ.out]
      exact Ret.mk rfl HE.out
  · have hb0 : (p == 0) = false := by simpa using h0
    have HZ : Hid (cmpA a b = p) := Lib.hid (by rw [HA.out]; unfold orI; simp [h0])
    clear h0
    go_enter Try.func38, Try.ntmps38
    go_wp2_with fail
    refine (texts_any _ _ _).mono ?_
    rintro e w1 ⟨rfl, rfl⟩
    rw [HP.out]
    go_wp2
    go_ret
    rw [HZ.out]
    exact Ret.mk rfl HE.out

theorem sameAtom_any (n : Nat) (hM : n ≤ 1000000) (a b : At) (v x : Value) (w : World) (hn : wtL a.ts ≤ n) (hv : VA w a v) (hx : VA w b x) : Calls Try.prog 35 #[v, x] w (Ret w (Is (.bool (cmpA a b == 0)))) := by
  have hC := hide (fun (w' : World) (e : Ext w w') => cmpAtom_any n hM a b v x w' hn (hv.ext e) (hx.ext e))
  obtain ⟨sa, rfl, hsa, -⟩ := hv.open_
  obtain ⟨sb, rfl, hsb, -⟩ := hx.open_
  obtain ⟨Aa, ca, xsa, rfl, -⟩ := hsa
  obtain ⟨Ab, cb, xsb, rfl, -⟩ := hsb
  have HE := hide (fun o p => ((Ext.rfl' w).al o).al p)
  clear hv hx hn
  go_enter Try.func35, Try.ntmps35
  go_wp2_with fail
  refine ((unhide hC) _ ((unhide HE) _ _)).mono ?_
  rintro e w1 ⟨v, rfl, hv, he⟩
  obtain rfl : v = _ := hv
  have he := hide (((unhide HE) _ _).tr he)
  generalize cmpA a b = q at *
  go_wp2
  go_ret
  exact Ret.mk rfl (unhide he)

theorem refSameAtom_any (n : Nat) (hM : n ≤ 1000000) (a b : At) (v x : Value) (w : World) (hn : wtL a.ts ≤ n) (hv : VA w a v) (hx : VA w b x) : Calls Try.prog 36 #[v, x] w (Ret w (Is (.bool (cmpA a b == 0)))) := by
  have hC := hide (fun (w' : World) (e : Ext w w') => refCmpAtom_any n hM a b v x w' hn (hv.ext e) (hx.ext e))
  obtain ⟨sa, rfl, hsa, -⟩ := hv.open_
  obtain ⟨sb, rfl, hsb, -⟩ := hx.open_
  obtain ⟨Aa, ca, xsa, rfl, -⟩ := hsa
  obtain ⟨Ab, cb, xsb, rfl, -⟩ := hsb
  have HE := hide (fun o p => ((Ext.rfl' w).al o).al p)
  clear hv hx hn
  go_enter Try.func36, Try.ntmps36
  go_wp2_with fail
  refine ((unhide hC) _ ((unhide HE) _ _)).mono ?_
  rintro e w1 ⟨v, rfl, hv, he⟩
  obtain rfl : v = _ := hv
  have he := hide (((unhide HE) _ _).tr he)
  generalize cmpA a b = q at *
  go_wp2
  go_ret
  exact Ret.mk rfl (unhide he)

theorem sameTerms_any (n : Nat) (hM : n ≤ 1000000) (ts us : List T) (v x : Value) (w : World) (hn : wtL ts ≤ n) (hv : SlT w ts v) (hx : SlT w us x) : Calls Try.prog 68 #[v, x] w (Ret w (Is (.bool (listsT ts us == 0)))) := by
  have hC := hide (lists_any n hM ts us v x w hn hv hx)
  obtain ⟨Aa, ca, xsa, rfl, -⟩ := hv
  obtain ⟨Ab, cb, xsb, rfl, -⟩ := hx
  clear hn
  go_enter Try.func68, Try.ntmps68
  go_wp2_with fail
  refine (unhide hC).mono ?_
  rintro e w1 ⟨v, rfl, hv, he⟩
  obtain rfl : v = _ := hv
  generalize listsT ts us = q at *
  have he := hide he
  go_wp2
  go_ret
  exact Ret.mk rfl (unhide he)

/-- Goals that are identical. -/
def sameG (a b : Gl) : Bool := a.op == b.op && a.n.toList == b.n.toList && a.ts.length == b.ts.length && cmpL a.ts b.ts == 0

set_option maxHeartbeats 1000000 in
theorem sameGoal_any (n : Nat) (hM : n ≤ 1000000) (a b : Gl) (v x : Value) (w : World) (hn : wtL a.ts ≤ n) (hv : VG w a v) (hx : VG w b x) : Calls Try.prog 28 #[v, x] w (Ret w (Is (.bool (sameG a b)))) := by
  obtain ⟨sa, rfl, hsa, -⟩ := hv.open_
  obtain ⟨sb, rfl, hsb, -⟩ := hx.open_
  have hC := hide (fun (w' : World) (e : Ext w w') (h : a.ts.length = b.ts.length) => list_any n hM a.ts b.ts sa sb w' hn h (hsa.ext e) (hsb.ext e))
  obtain ⟨Aa, ca, xsa, rfl, -⟩ := hsa
  obtain ⟨Ab, cb, xsb, rfl, -⟩ := hsb
  clear hv hx hn
  obtain ⟨y, hy⟩ : ∃ y, ((w.alloc (.cells #[.int .i64 a.op, .string a.n, .slice Aa a.ts.length ca] 39)).alloc (.cells #[.int .i64 b.op, .string b.n, .slice Ab b.ts.length cb] 39)) = y := ⟨_, rfl⟩
  have HE : Hid (Ext w y) := Lib.hid (by rw [← hy]; exact (((Ext.rfl' w).al _).al _))
  have ba0 : y.cell? ⟨w.heap.size, 0, none⟩ = some (.int .i64 a.op) := by rw [← hy]; exact ((Ext.rfl' _).al _).cellOf (box_at w #[.int .i64 a.op, .string a.n, .slice Aa a.ts.length ca] 39 0 _ (w.heap.size) (by simp) rfl)
  have ba1 : y.cell? ⟨w.heap.size, 1, none⟩ = some (.string a.n) := by rw [← hy]; exact ((Ext.rfl' _).al _).cellOf (box_at w #[.int .i64 a.op, .string a.n, .slice Aa a.ts.length ca] 39 1 _ (w.heap.size) (by simp) rfl)
  have ba2 : y.cell? ⟨w.heap.size, 2, none⟩ = some (.slice Aa a.ts.length ca) := by rw [← hy]; exact ((Ext.rfl' _).al _).cellOf (box_at w #[.int .i64 a.op, .string a.n, .slice Aa a.ts.length ca] 39 2 _ (w.heap.size) (by simp) rfl)
  have bb0 : y.cell? ⟨w.heap.size + 1, 0, none⟩ = some (.int .i64 b.op) := by rw [← hy]; exact box_at (w.alloc (.cells #[.int .i64 a.op, .string a.n, .slice Aa a.ts.length ca] 39)) #[.int .i64 b.op, .string b.n, .slice Ab b.ts.length cb] 39 0 _ (w.heap.size + 1) (by simp) rfl
  have bb1 : y.cell? ⟨w.heap.size + 1, 1, none⟩ = some (.string b.n) := by rw [← hy]; exact box_at (w.alloc (.cells #[.int .i64 a.op, .string a.n, .slice Aa a.ts.length ca] 39)) #[.int .i64 b.op, .string b.n, .slice Ab b.ts.length cb] 39 1 _ (w.heap.size + 1) (by simp) rfl
  have bb2 : y.cell? ⟨w.heap.size + 1, 2, none⟩ = some (.slice Ab b.ts.length cb) := by rw [← hy]; exact box_at (w.alloc (.cells #[.int .i64 a.op, .string a.n, .slice Aa a.ts.length ca] 39)) #[.int .i64 b.op, .string b.n, .slice Ab b.ts.length cb] 39 2 _ (w.heap.size + 1) (by simp) rfl
  by_cases h1 : a.op = b.op
  · by_cases h2 : a.n.toList = b.n.toList
    · by_cases h3 : a.ts.length = b.ts.length
      · have HZ : Hid (sameG a b = (cmpL a.ts b.ts == 0)) := Lib.hid (by unfold sameG; simp [h1, h2, h3])
        have k1 : (a.op == b.op) = true := by simpa using h1
        have k2 : (a.n.toList == b.n.toList) = true := by simpa using h2
        have k3 : ((a.ts.length : Int) == (b.ts.length : Int)) = true := by simp [h3]
        have H3 := Lib.hid h3
        clear h1 h2 h3
        go_enter Try.func28, Try.ntmps28
        go_wp2_with fail
        refine ((unhide hC) _ HE.out H3.out).mono ?_
        rintro e w1 ⟨v, rfl, hv, he⟩
        obtain rfl : v = _ := hv
        have he := hide (HE.out.tr he)
        generalize cmpL a.ts b.ts = q at *
        go_wp2
        go_ret
        rw [HZ.out]
        exact Ret.mk rfl (unhide he)
      · have HZ : Hid (sameG a b = false) := Lib.hid (by unfold sameG; simp [h3])
        have k1 : (a.op == b.op) = true := by simpa using h1
        have k2 : (a.n.toList == b.n.toList) = true := by simpa using h2
        have k3 : ((a.ts.length : Int) == (b.ts.length : Int)) = false := by simp; omega
        clear h1 h2 h3
        go_enter Try.func28, Try.ntmps28
        go_wp2
        go_ret
        rw [HZ.out]
        exact Ret.mk rfl HE.out
    · have HZ : Hid (sameG a b = false) := Lib.hid (by unfold sameG; simp [h2])
      have k1 : (a.op == b.op) = true := by simpa using h1
      have k2 : (a.n.toList == b.n.toList) = false := by simpa using h2
      clear h1 h2
      go_enter Try.func28, Try.ntmps28
      go_wp2
      go_ret
      rw [HZ.out]
      exact Ret.mk rfl HE.out
  · have HZ : Hid (sameG a b = false) := Lib.hid (by unfold sameG; simp [h1])
    have k1 : (a.op == b.op) = false := by simpa using h1
    clear h1
    go_enter Try.func28, Try.ntmps28
    go_wp2
    go_ret
    rw [HZ.out]
    exact Ret.mk rfl HE.out

set_option maxHeartbeats 1000000 in
theorem refSameGoal_any (n : Nat) (hM : n ≤ 1000000) (a b : Gl) (v x : Value) (w : World) (hn : wtL a.ts ≤ n) (hv : VG w a v) (hx : VG w b x) : Calls Try.prog 29 #[v, x] w (Ret w (Is (.bool (sameG a b)))) := by
  obtain ⟨sa, rfl, hsa, -⟩ := hv.open_
  obtain ⟨sb, rfl, hsb, -⟩ := hx.open_
  have hC := hide (fun (w' : World) (e : Ext w w') (h : a.ts.length = b.ts.length) => sameTerms_any n hM a.ts b.ts sa sb w' hn (hsa.ext e) (hsb.ext e))
  obtain ⟨Aa, ca, xsa, rfl, -⟩ := hsa
  obtain ⟨Ab, cb, xsb, rfl, -⟩ := hsb
  clear hv hx hn
  obtain ⟨y, hy⟩ : ∃ y, ((w.alloc (.cells #[.int .i64 a.op, .string a.n, .slice Aa a.ts.length ca] 39)).alloc (.cells #[.int .i64 b.op, .string b.n, .slice Ab b.ts.length cb] 39)) = y := ⟨_, rfl⟩
  have HE : Hid (Ext w y) := Lib.hid (by rw [← hy]; exact (((Ext.rfl' w).al _).al _))
  have ba0 : y.cell? ⟨w.heap.size, 0, none⟩ = some (.int .i64 a.op) := by rw [← hy]; exact ((Ext.rfl' _).al _).cellOf (box_at w #[.int .i64 a.op, .string a.n, .slice Aa a.ts.length ca] 39 0 _ (w.heap.size) (by simp) rfl)
  have ba1 : y.cell? ⟨w.heap.size, 1, none⟩ = some (.string a.n) := by rw [← hy]; exact ((Ext.rfl' _).al _).cellOf (box_at w #[.int .i64 a.op, .string a.n, .slice Aa a.ts.length ca] 39 1 _ (w.heap.size) (by simp) rfl)
  have ba2 : y.cell? ⟨w.heap.size, 2, none⟩ = some (.slice Aa a.ts.length ca) := by rw [← hy]; exact ((Ext.rfl' _).al _).cellOf (box_at w #[.int .i64 a.op, .string a.n, .slice Aa a.ts.length ca] 39 2 _ (w.heap.size) (by simp) rfl)
  have bb0 : y.cell? ⟨w.heap.size + 1, 0, none⟩ = some (.int .i64 b.op) := by rw [← hy]; exact box_at (w.alloc (.cells #[.int .i64 a.op, .string a.n, .slice Aa a.ts.length ca] 39)) #[.int .i64 b.op, .string b.n, .slice Ab b.ts.length cb] 39 0 _ (w.heap.size + 1) (by simp) rfl
  have bb1 : y.cell? ⟨w.heap.size + 1, 1, none⟩ = some (.string b.n) := by rw [← hy]; exact box_at (w.alloc (.cells #[.int .i64 a.op, .string a.n, .slice Aa a.ts.length ca] 39)) #[.int .i64 b.op, .string b.n, .slice Ab b.ts.length cb] 39 1 _ (w.heap.size + 1) (by simp) rfl
  have bb2 : y.cell? ⟨w.heap.size + 1, 2, none⟩ = some (.slice Ab b.ts.length cb) := by rw [← hy]; exact box_at (w.alloc (.cells #[.int .i64 a.op, .string a.n, .slice Aa a.ts.length ca] 39)) #[.int .i64 b.op, .string b.n, .slice Ab b.ts.length cb] 39 2 _ (w.heap.size + 1) (by simp) rfl
  by_cases h1 : a.op = b.op
  · by_cases h2 : a.n.toList = b.n.toList
    · by_cases h3 : a.ts.length = b.ts.length
      · have HZ : Hid (sameG a b = (cmpL a.ts b.ts == 0)) := Lib.hid (by unfold sameG; simp [h1, h2, h3])
        have k1 : (a.op == b.op) = true := by simpa using h1
        have k2 : (a.n.toList == b.n.toList) = true := by simpa using h2
        have k3 : ((a.ts.length : Int) == (b.ts.length : Int)) = true := by simp [h3]
        have H3 := Lib.hid h3
        clear h1 h2 h3
        go_enter Try.func29, Try.ntmps29
        go_wp2_with fail
        refine ((unhide hC) _ HE.out H3.out).mono ?_
        rintro e w1 ⟨v, rfl, hv, he⟩
        obtain rfl : v = _ := hv
        have he := hide (HE.out.tr he)
        rw [listsT_same H3.out]
        generalize cmpL a.ts b.ts = q at *
        go_wp2
        go_ret
        rw [HZ.out]
        exact Ret.mk rfl (unhide he)
      · have HZ : Hid (sameG a b = false) := Lib.hid (by unfold sameG; simp [h3])
        have k1 : (a.op == b.op) = true := by simpa using h1
        have k2 : (a.n.toList == b.n.toList) = true := by simpa using h2
        have k3 : ((a.ts.length : Int) == (b.ts.length : Int)) = false := by simp; omega
        clear h1 h2 h3
        go_enter Try.func29, Try.ntmps29
        go_wp2
        go_ret
        rw [HZ.out]
        exact Ret.mk rfl HE.out
    · have HZ : Hid (sameG a b = false) := Lib.hid (by unfold sameG; simp [h2])
      have k1 : (a.op == b.op) = true := by simpa using h1
      have k2 : (a.n.toList == b.n.toList) = false := by simpa using h2
      clear h1 h2
      go_enter Try.func29, Try.ntmps29
      go_wp2
      go_ret
      rw [HZ.out]
      exact Ret.mk rfl HE.out
  · have HZ : Hid (sameG a b = false) := Lib.hid (by unfold sameG; simp [h1])
    have k1 : (a.op == b.op) = false := by simpa using h1
    clear h1
    go_enter Try.func29, Try.ntmps29
    go_wp2
    go_ret
    rw [HZ.out]
    exact Ret.mk rfl HE.out

/-- What is left of so many nodes, of lists of terms with their names. -/
def weighN (l : List (ByteArray × List T)) (most : Int) : Int := l.foldl (fun most a => if most < 0 then most else weighF 64 a.2 (most - 1 - (a.1.size / 8 : Nat))) most
theorem weighN_neg (l : List (ByteArray × List T)) (most : Int) (h : most < 0) : weighN l most = most := by
  induction l with
  | nil => rfl
  | cons a l ih =>
    show weighN l (if most < 0 then most else weighF 64 a.2 (most - 1 - (a.1.size / 8 : Nat))) = _
    rw [if_pos h, ih]
theorem weighN_cons (a : ByteArray × List T) (l : List (ByteArray × List T)) (most : Int) (h : 0 ≤ most) : weighN (a :: l) most = weighN l (weighF 64 a.2 (most - 1 - (a.1.size / 8 : Nat))) := by
  show weighN l (if most < 0 then most else weighF 64 a.2 (most - 1 - (a.1.size / 8 : Nat))) = _
  rw [if_neg (by omega)]
theorem weighF_most (l : List T) (q : Int) (left : Int) (h : q ≤ left) (h0 : 0 ≤ left) : weighF 64 l q ≤ left := by
  by_cases h1 : 0 ≤ q
  · have := weighF_le 64 l q h1; omega
  · unfold weighF
    rw [if_pos (by omega)]; omega
/-- What is not left out weighs at most so much. -/
theorem weighN_wt : ∀ (l : List (ByteArray × List T)) (most : Int), 0 ≤ weighN l most → ∀ a ∈ l, (wtL a.2 : Int) ≤ most
  | [], _, _, a, h => by simp at h
  | b :: l, most, h, a, ha => by
    by_cases h0 : most < 0
    · rw [weighN_neg _ _ h0] at h; omega
    · rw [weighN_cons _ _ _ (by omega)] at h
      by_cases h1 : weighF 64 b.2 (most - 1 - (b.1.size / 8 : Nat)) < 0
      · rw [weighN_neg _ _ h1] at h; omega
      · have h2 := weigh_wt 64 b.2 (most - 1 - (b.1.size / 8 : Nat)) (by omega)
        rcases List.mem_cons.1 ha with rfl | ha
        · omega
        · have := weighN_wt l _ h a ha
          omega

def GreatRel (W : World) (l : List (ByteArray × List T)) (most0 : Int) (v1 v5 : Value) (wr : World) : Prop :=
  ∃ (k : Nat) (most : Int), v1 = .int .i64 most ∧ v5 = .int .i64 (k : Int) ∧ k ≤ l.length ∧ -1 ≤ most ∧ most ≤ most0 ∧ Hid (weighN l most0 = weighN (l.drop k) most) ∧ Ext W wr

set_option maxRecDepth 100000 in
set_option maxHeartbeats 1600000 in
theorem greatAtoms_any (l : List At) (v : Value) (most0 : Int) (w : World) (hv : layA.Sl w l v) (h0 : 0 ≤ most0) (h1 : most0 ≤ 1000000) (hlen : l.length ≤ 1000000) :
    Calls Try.prog 32 #[v, .int .i64 most0] w (Ret w (Is (.bool (decide (weighN (l.map fun a => (a.n, a.ts)) most0 < 0))))) := by
  have hv' := hv
  obtain ⟨A, c, xs, rfl, hx⟩ := hv
  obtain ⟨L, hL⟩ : ∃ L, (l.map fun a => (a.n, a.ts)) = L := ⟨_, rfl⟩
  have HLL : Hid (∀ (k : Nat) (a : At), l[k]? = some a → L.drop k = (a.n, a.ts) :: L.drop (k + 1)) := Lib.hid fun k a h => by
    have hk := (List.getElem?_eq_some_iff.1 h).1
    have hk2 : k < L.length := by rw [← hL]; simpa using hk
    rw [List.drop_eq_getElem_cons hk2]
    congr 1
    have : l[k] = a := (List.getElem?_eq_some_iff.1 h).2
    subst hL
    simp [this]
  have hLn : L.length = l.length := by rw [← hL]; simp
  have hLn := Lib.hid hLn
  rw [hL]
  clear hx hL
  go_enter Try.func32, Try.ntmps32
  go_wp2
  go_loopw [1, 5] (GreatRel w L most0) (fun _ v5 _ => l.length - (intOf v5).toNat)
  case atStart => exact ⟨0, most0, rfl, rfl, by omega, by omega, by omega, Lib.hid (by rw [List.drop_zero]), Ext.rfl' w⟩
  case round =>
    obtain ⟨k, most, rfl, rfl, hk, hm1, hm2, hinv, he⟩ := hrel
    rw [hLn.out] at hk
    by_cases hlt : k < l.length
    · by_cases hn : 0 ≤ most
      · obtain ⟨a, ha⟩ : ∃ a, l[k]? = some a := ⟨l[k], List.getElem?_eq_getElem hlt⟩
        obtain ⟨b, o, sl, rfl, c1, c2, hs, hva⟩ := slA_at (hv'.ext he) ha
        have hsz : a.n.size ≤ 9223372036854775807 := by obtain ⟨_, _, _, h⟩ := hva.open_; exact h
        have hle2 := weighF_most a.ts (most - 1 - (a.n.size / 8 : Nat)) most0 (by omega) (by omega)
        rw [HLL.out k a ha, weighN_cons _ _ _ hn] at hinv
        clear ha hva
        · go_wp2_with fail
          refine wp_region_sched [(0, true), (1, true), (2, true), (3, true), (4, true), (5, true), (6, true), (7, true), (8, true), (9, true), (10, true), (11, true), (12, true), (13, true), (14, true), (15, false), (16, true)] (by kernel_rfl) (by kernel_rfl) (Ext wr) (Ext.rfl' wr).dr ?_
          iterate 15 (refine sQ rfl rfl ?_ ?_ ?_; rotate_left; (· (intro w' hw'; have z1 := hw'.cellOf c1; have z2 := hw'.cellOf c2; go_simp; try with_reducible rfl)); try simp only [Act.put, List.setIfInBounds_toArray, List.set_cons_succ, List.set_cons_zero])
          refine sL rfl rfl ?_
          go_wp2_with fail
          have hcall := weigh_any 64 a.ts _ (most - 1 - (a.n.size / 8 : Nat)) 64 wr.drew (hs.ext (Ext.rfl' wr).dr) rfl (by omega) (by omega) (by omega)
          rw [show (most - 1 - ((a.n.size / 8 : Nat) : Int)) = most - 1 - (a.n.size : Int) / 8 by omega] at hcall hinv hle2
          refine hcall.mono ?_
          rintro e w2 ⟨v, rfl, hv2, he2⟩
          obtain rfl : v = _ := hv2
          have hE2 : Ext wr w2 := (Ext.rfl' wr).dr.tr he2
          have hge := weighF_ge 64 a.ts (most - 1 - (a.n.size : Int) / 8)
          generalize weighF 64 a.ts (most - 1 - (a.n.size : Int) / 8) = z at *
          go_wp2_with fail
          refine SQ.mk hE2 ?_
          iterate 1 (refine sQ rfl rfl ?_ ?_ ?_; rotate_left; (· (intro w' hw'; have z1 := hw'.cellOf c1; have z2 := hw'.cellOf c2; go_simp; try with_reducible rfl)); try simp only [Act.put, List.setIfInBounds_toArray, List.set_cons_succ, List.set_cons_zero])
          refine sE ?_
          go_wp2_with fail
          go_roundw
          case rel => exact ⟨k + 1, z, rfl, by go_num, by have := hLn.out; omega, hge, hle2, hinv, he.tr hE2⟩
          case measure => simp [intOf]; omega
      · go_wp2
        go_ret
        have hm : most < 0 := by omega
        rw [hinv.out, weighN_neg _ _ hm, decide_eq_true hm]
        exact Ret.mk rfl he
    · rw [List.drop_eq_nil_of_le (by have := hLn.out; omega)] at hinv
      go_wp2
      go_ret
      rw [hinv.out]
      exact Ret.mk rfl he

set_option maxRecDepth 100000 in
set_option maxHeartbeats 1600000 in
theorem greatGoals_any (l : List Gl) (v : Value) (most0 : Int) (w : World) (hv : layG.Sl w l v) (h0 : 0 ≤ most0) (h1 : most0 ≤ 1000000) (hlen : l.length ≤ 1000000) :
    Calls Try.prog 25 #[v, .int .i64 most0] w (Ret w (Is (.bool (decide (weighN (l.map fun a => (a.n, a.ts)) most0 < 0))))) := by
  have hv' := hv
  obtain ⟨A, c, xs, rfl, hx⟩ := hv
  obtain ⟨L, hL⟩ : ∃ L, (l.map fun a => (a.n, a.ts)) = L := ⟨_, rfl⟩
  have HLL : Hid (∀ (k : Nat) (a : Gl), l[k]? = some a → L.drop k = (a.n, a.ts) :: L.drop (k + 1)) := Lib.hid fun k a h => by
    have hk := (List.getElem?_eq_some_iff.1 h).1
    have hk2 : k < L.length := by rw [← hL]; simpa using hk
    rw [List.drop_eq_getElem_cons hk2]
    congr 1
    have : l[k] = a := (List.getElem?_eq_some_iff.1 h).2
    subst hL
    simp [this]
  have hLn : L.length = l.length := by rw [← hL]; simp
  have hLn := Lib.hid hLn
  rw [hL]
  clear hx hL
  go_enter Try.func25, Try.ntmps25
  go_wp2
  go_loopw [1, 5] (GreatRel w L most0) (fun _ v5 _ => l.length - (intOf v5).toNat)
  case atStart => exact ⟨0, most0, rfl, rfl, by omega, by omega, by omega, Lib.hid (by rw [List.drop_zero]), Ext.rfl' w⟩
  case round =>
    obtain ⟨k, most, rfl, rfl, hk, hm1, hm2, hinv, he⟩ := hrel
    rw [hLn.out] at hk
    by_cases hlt : k < l.length
    · by_cases hn : 0 ≤ most
      · obtain ⟨a, ha⟩ : ∃ a, l[k]? = some a := ⟨l[k], List.getElem?_eq_getElem hlt⟩
        obtain ⟨b, o, sl, rfl, c0, c1, c2, hs, hva⟩ := slG_at (hv'.ext he) ha
        have hsz : a.n.size ≤ 9223372036854775807 := by obtain ⟨_, _, _, _, h⟩ := hva.open_; exact h
        have hle2 := weighF_most a.ts (most - 1 - (a.n.size / 8 : Nat)) most0 (by omega) (by omega)
        rw [HLL.out k a ha, weighN_cons _ _ _ hn] at hinv
        clear ha hva
        · go_wp2_with fail
          refine wp_region_sched [(0, true), (1, true), (2, true), (3, true), (4, true), (5, true), (6, true), (7, true), (8, true), (9, true), (10, true), (11, true), (12, true), (13, true), (14, true), (15, false), (16, true)] (by kernel_rfl) (by kernel_rfl) (Ext wr) (Ext.rfl' wr).dr ?_
          iterate 15 (refine sQ rfl rfl ?_ ?_ ?_; rotate_left; (· (intro w' hw'; have z0 := hw'.cellOf c0; have z1 := hw'.cellOf c1; have z2 := hw'.cellOf c2; go_simp; try with_reducible rfl)); try simp only [Act.put, List.setIfInBounds_toArray, List.set_cons_succ, List.set_cons_zero])
          refine sL rfl rfl ?_
          go_wp2_with fail
          have hcall := weigh_any 64 a.ts _ (most - 1 - (a.n.size / 8 : Nat)) 64 wr.drew (hs.ext (Ext.rfl' wr).dr) rfl (by omega) (by omega) (by omega)
          rw [show (most - 1 - ((a.n.size / 8 : Nat) : Int)) = most - 1 - (a.n.size : Int) / 8 by omega] at hcall hinv hle2
          refine hcall.mono ?_
          rintro e w2 ⟨v, rfl, hv2, he2⟩
          obtain rfl : v = _ := hv2
          have hE2 : Ext wr w2 := (Ext.rfl' wr).dr.tr he2
          have hge := weighF_ge 64 a.ts (most - 1 - (a.n.size : Int) / 8)
          generalize weighF 64 a.ts (most - 1 - (a.n.size : Int) / 8) = z at *
          go_wp2_with fail
          refine SQ.mk hE2 ?_
          iterate 1 (refine sQ rfl rfl ?_ ?_ ?_; rotate_left; (· (intro w' hw'; have z0 := hw'.cellOf c0; have z1 := hw'.cellOf c1; have z2 := hw'.cellOf c2; go_simp; try with_reducible rfl)); try simp only [Act.put, List.setIfInBounds_toArray, List.set_cons_succ, List.set_cons_zero])
          refine sE ?_
          go_wp2_with fail
          go_roundw
          case rel => exact ⟨k + 1, z, rfl, by go_num, by have := hLn.out; omega, hge, hle2, hinv, he.tr hE2⟩
          case measure => simp [intOf]; omega
      · go_wp2
        go_ret
        have hm : most < 0 := by omega
        rw [hinv.out, weighN_neg _ _ hm, decide_eq_true hm]
        exact Ret.mk rfl he
    · rw [List.drop_eq_nil_of_le (by have := hLn.out; omega)] at hinv
      go_wp2
      go_ret
      rw [hinv.out]
      exact Ret.mk rfl he
end Go.Proofs.Ytcjbageaiafbmaa
