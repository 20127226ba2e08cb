/-
  The walks of Or, Compare, list and Same of the program.
-/
import Derived.Test.YtcjbageaiafbmaaCmp
namespace Go.Proofs.Ytcjbageaiafbmaa
open Go.RowKit

/-- Numbers that a slice reads: the first that is not 0. -/
def orL : List Int → Int
  | [] => 0
  | a :: l => if a ≠ 0 then a else orL l

set_option maxRecDepth 100000 in
theorem or_any (A : Option Addr) (n c : Nat) (l : List Int) (w : World) (hn : l.length = n) (hr : Rd w A (l.map (Value.int .i64))) (hl : n ≤ 1000) : Calls Try.prog 56 #[.slice A n c] w (SameI w (orL l)) := by
  subst hn
  go_enter Try.func56, Try.ntmps56
  go_wp2
  go_loop [5, 8] (fun _ v8 => ∃ k : Nat, v8 = .int .i64 (k : Int) ∧ k ≤ l.length ∧ Hid (orL l = orL (l.drop k))) (fun _ v8 => l.length - (intOf v8).toNat)
  case atStart => exact ⟨0, rfl, by omega, Lib.hid rfl⟩
  case round =>
    obtain ⟨k, rfl, hk, hi⟩ := hrel
    by_cases hlt : k < l.length
    · obtain ⟨z, hz⟩ : ∃ z, l[k]? = some z := ⟨l[k], List.getElem?_eq_getElem hlt⟩
      have hd : l.drop k = z :: l.drop (k + 1) := by
        rw [List.drop_eq_getElem_cons hlt]; congr 1
        have := List.getElem?_eq_getElem hlt
        rw [this] at hz; injection hz
      rw [hd] at hi
      obtain ⟨ad, rfl, hc⟩ := hr.at_ (k := k) (u := .int .i64 z) (by rw [List.getElem?_map, hz]; rfl)
      clear hz hd
      by_cases h0 : z = 0
      · have hb : (z != 0) = false := by simpa using h0
        have HI : Hid (orL l = orL (l.drop (k + 1))) := by rw [hi.out, orL, if_neg (by simpa using h0)]; exact Lib.hid rfl
        clear h0
        go_wp2
        go_round
        case rel => exact ⟨k + 1, by go_num, by omega, HI⟩
        case measure => simp [intOf]; omega
      · have hb : (z != 0) = true := by simpa using h0
        have HI : Hid (orL l = z) := by rw [hi.out, orL, if_pos h0]; exact Lib.hid rfl
        clear h0
        go_wp2
        go_ret
        exact SameI.mk HI.out.symm
    · rw [List.drop_eq_nil_of_le (by omega)] at hi
      go_wp2
      go_ret
      exact SameI.mk hi.out.symm


set_option maxRecDepth 100000 in
set_option maxHeartbeats 1600000 in
theorem compare_step (n : Nat) (hM : n ≤ 1000000)
    (HL : Hid (∀ (ts us : List T) (v u : Value) (w : World), wtL ts ≤ n → ts.length = us.length → SlT w ts v → SlT w us u → Calls Try.prog 55 #[v, u] w (Ret w (Is (.int .i64 (cmpL ts us))))))
    (t u : T) (v x : Value) (w : World) (hn : wtL t.ar ≤ n) (hv : VT w t v) (hx : VT w u x) : Calls Try.prog 14 #[v, x] w (Ret w (Is (.int .i64 (cmpT t u)))) := by
  have HF := Lib.hid (cmpT_eq t u)
  obtain ⟨sl, rfl, hs, -⟩ := hv.open_
  obtain ⟨sx, rfl, hy, -⟩ := hx.open_
  clear hv hx
  obtain ⟨B, d, xs, rfl, hs'⟩ := hs
  obtain ⟨D, d2, ys, rfl, hy'⟩ := hy
  have HS : Hid (SlT w t.ar (.slice B t.ar.length d)) := ⟨B, d, xs, rfl, hs'⟩
  have HY : Hid (SlT w u.ar (.slice D u.ar.length d2)) := ⟨D, d2, ys, rfl, hy'⟩
  clear hs' hy'
  by_cases h1 : cmpI (rankK t.k) (rankK u.k) = 0
  · have hb : (cmpI (rankK t.k) (rankK u.k) != 0) = false := by simpa using h1
    have HF1 : Hid (cmpT t u = if rankK t.k = 0 ∨ rankK t.k = 1 then cmpI t.i u.i
       else if rankK t.k = 2 then orI (cmpI t.ar.length u.ar.length) (orI (cmpS t.s u.s) (cmpL t.ar u.ar))
       else orI (cmpI t.k u.k) (orI (cmpI t.i u.i) (cmpS t.s u.s))) := by rw [HF.out]; unfold orI; rw [if_neg (by simpa using h1)]; exact Lib.hid rfl
    have hr := rankK_lt t.k
    clear h1 HF
    by_cases r0 : rankK t.k = 0
    · have HF2 : Hid (cmpT t u = cmpI t.i u.i) := by rw [HF1.out, if_pos (.inl r0)]; exact Lib.hid rfl
      have b0 : (rankK t.k == 0) = true := by simpa using r0
      clear r0 hr HF1
      go_enter Try.func14, Try.ntmps14
      go_wp2_with fail
      go_quiet ((first | (go_at_call 53; exact quiet_left (rank_any _ _)) | (go_at_call 52; exact quiet_left (cmpI_any _ _ _))))
      go_wp2_with fail
      refine (rank_any _ _).mono ?_
      rintro e w1 ⟨rfl, rfl⟩
      go_wp2_with fail
      refine (cmpI_any _ _ _).mono ?_
      rintro e w1 ⟨rfl, rfl⟩
      go_wp2
      go_ret
      rw [HF2.out]
      exact Ret.mk rfl ((((Ext.rfl' w).al _).al _).drN _)
    by_cases r1 : rankK t.k = 1
    · have HF2 : Hid (cmpT t u = cmpI t.i u.i) := by rw [HF1.out, if_pos (.inr r1)]; exact Lib.hid rfl
      have b0 : (rankK t.k == 0) = false := by simpa using r0
      have b1 : (rankK t.k == 1) = true := by simpa using r1
      clear r0 r1 hr HF1
      go_enter Try.func14, Try.ntmps14
      go_wp2_with fail
      go_quiet ((first | (go_at_call 53; exact quiet_left (rank_any _ _)) | (go_at_call 52; exact quiet_left (cmpI_any _ _ _))))
      go_wp2_with fail
      refine (rank_any _ _).mono ?_
      rintro e w1 ⟨rfl, rfl⟩
      go_wp2_with fail
      refine (cmpI_any _ _ _).mono ?_
      rintro e w1 ⟨rfl, rfl⟩
      go_wp2
      go_ret
      rw [HF2.out]
      exact Ret.mk rfl ((((Ext.rfl' w).al _).al _).drN _)
    have HF2 : Hid (cmpT t u = if rankK t.k = 2 then orI (cmpI t.ar.length u.ar.length) (orI (cmpS t.s u.s) (cmpL t.ar u.ar)) else orI (cmpI t.k u.k) (orI (cmpI t.i u.i) (cmpS t.s u.s))) := by
      rw [HF1.out, if_neg (by omega)]; exact Lib.hid rfl
    have b0 : (rankK t.k == 0) = false := by simpa using r0
    have b1 : (rankK t.k == 1) = false := by simpa using r1
    clear HF1
    by_cases r2 : rankK t.k = 2
    · have HF3 : Hid (cmpT t u = orI (cmpI t.ar.length u.ar.length) (orI (cmpS t.s u.s) (cmpL t.ar u.ar))) := by rw [HF2.out, if_pos r2]; exact Lib.hid rfl
      have b2 : (rankK t.k == 2) = true := by simpa using r2
      clear HF2 r0 r1 r2 hr
      by_cases l1 : cmpI t.ar.length u.ar.length = 0
      · have bl : (cmpI (t.ar.length : Int) (u.ar.length : Int) != 0) = false := by simpa using l1
        have HF4 : Hid (cmpT t u = orI (cmpS t.s u.s) (cmpL t.ar u.ar)) := by rw [HF3.out]; unfold orI; rw [if_neg (by simpa using l1)]; exact Lib.hid rfl
        have LL : Hid (t.ar.length = u.ar.length) := by have := cmpI_zero l1; exact Lib.hid (by omega)
        clear l1 HF3
        by_cases s1 : cmpS t.s u.s = 0
        · have bs : (cmpS t.s u.s != 0) = false := by simpa using s1
          have HF5 : Hid (cmpT t u = cmpL t.ar u.ar) := by rw [HF4.out]; unfold orI; rw [if_neg (by simpa using s1)]; exact Lib.hid rfl
          clear s1 HF4
          go_enter Try.func14, Try.ntmps14
          go_wp2_with fail
          go_quiet ((first | (go_at_call 53; exact quiet_left (rank_any _ _)) | (go_at_call 52; exact quiet_left (cmpI_any _ _ _))))
          go_wp2_with fail
          refine (rank_any _ _).mono ?_
          rintro e w1 ⟨rfl, rfl⟩
          go_wp2_with fail
          refine (cmpI_any _ _ _).mono ?_
          rintro e w1 ⟨rfl, rfl⟩
          go_wp2_with fail
          refine (cmpS_any _ _ _).mono ?_
          rintro e w1 ⟨rfl, rfl⟩
          go_wp2_with fail
          refine ((unhide HL) t.ar u.ar _ _ _ hn LL.out (HS.out.ext ((((Ext.rfl' w).al _).al _).drN _)) (HY.out.ext ((((Ext.rfl' w).al _).al _).drN _))).mono ?_
          rintro e w1 ⟨v, rfl, hv, he⟩
          obtain rfl : v = _ := hv
          go_wp2
          go_ret
          rw [HF5.out]
          exact Ret.mk rfl (((((Ext.rfl' w).al _).al _).drN _).tr he)
        · have bs : (cmpS t.s u.s != 0) = true := by simpa using s1
          have HF5 : Hid (cmpT t u = cmpS t.s u.s) := by rw [HF4.out]; unfold orI; rw [if_pos s1]; exact Lib.hid rfl
          clear s1 HF4
          go_enter Try.func14, Try.ntmps14
          go_wp2_with fail
          go_quiet ((first | (go_at_call 53; exact quiet_left (rank_any _ _)) | (go_at_call 52; exact quiet_left (cmpI_any _ _ _))))
          go_wp2_with fail
          refine (rank_any _ _).mono ?_
          rintro e w1 ⟨rfl, rfl⟩
          go_wp2_with fail
          refine (cmpI_any _ _ _).mono ?_
          rintro e w1 ⟨rfl, rfl⟩
          go_wp2_with fail
          refine (cmpS_any _ _ _).mono ?_
          rintro e w1 ⟨rfl, rfl⟩
          go_wp2
          go_ret
          rw [HF5.out]
          exact Ret.mk rfl ((((Ext.rfl' w).al _).al _).drN _)
      · have bl : (cmpI (t.ar.length : Int) (u.ar.length : Int) != 0) = true := by simpa using l1
        have HF4 : Hid (cmpT t u = cmpI t.ar.length u.ar.length) := by rw [HF3.out]; unfold orI; rw [if_pos l1]; exact Lib.hid rfl
        clear l1 HF3
        go_enter Try.func14, Try.ntmps14
        go_wp2_with fail
        go_quiet ((first | (go_at_call 53; exact quiet_left (rank_any _ _)) | (go_at_call 52; exact quiet_left (cmpI_any _ _ _))))
        go_wp2_with fail
        refine (rank_any _ _).mono ?_
        rintro e w1 ⟨rfl, rfl⟩
        go_wp2_with fail
        refine (cmpI_any _ _ _).mono ?_
        rintro e w1 ⟨rfl, rfl⟩
        go_wp2
        go_ret
        rw [HF4.out]
        exact Ret.mk rfl ((((Ext.rfl' w).al _).al _).drN _)
    have HF3 : Hid (cmpT t u = orL [cmpI t.k u.k, cmpI t.i u.i, cmpS t.s u.s]) := by
      rw [HF2.out, if_neg r2]; unfold orI orL orL orL orL
      refine Lib.hid ?_
      split <;> (try rfl)
      split <;> (try rfl)
      split <;> simp_all
    have b2 : (rankK t.k == 2) = false := by simpa using r2
    clear HF2 r0 r1 r2 hr
    go_enter Try.func14, Try.ntmps14
    go_wp2_with fail
    go_quiet ((first | (go_at_call 53; exact quiet_left (rank_any _ _)) | (go_at_call 52; exact quiet_left (cmpI_any _ _ _))))
    go_wp2_with fail
    refine (rank_any _ _).mono ?_
    rintro e w1 ⟨rfl, rfl⟩
    go_wp2_with fail
    have hB := two_boxes w #[.int .i64 t.k, .int .i64 t.i, .string t.s, .slice B t.ar.length d] #[.int .i64 u.k, .int .i64 u.i, .string u.s, .slice D u.ar.length d2] 24 24 nq
    generalize ((w.alloc (.cells #[.int .i64 t.k, .int .i64 t.i, .string t.s, .slice B t.ar.length d] 24)).alloc (.cells #[.int .i64 u.k, .int .i64 u.i, .string u.s, .slice D u.ar.length d2] 24)).drewN nq = y at hB ⊢
    obtain ⟨hEy, hB1, hB2⟩ := hB
    have k0 : y.cell? ⟨w.heap.size, 0, none⟩ = some (.int .i64 t.k) := hB1 0
    have k1 : y.cell? ⟨w.heap.size, 1, none⟩ = some (.int .i64 t.i) := hB1 1
    have k2 : y.cell? ⟨w.heap.size, 2, none⟩ = some (.string t.s) := hB1 2
    have m0 : y.cell? ⟨w.heap.size + 1, 0, none⟩ = some (.int .i64 u.k) := hB2 0
    have m1 : y.cell? ⟨w.heap.size + 1, 1, none⟩ = some (.int .i64 u.i) := hB2 1
    have m2 : y.cell? ⟨w.heap.size + 1, 2, none⟩ = some (.string u.s) := hB2 2
    clear hB1 hB2
    refine wp_region_sched [(0, true), (1, true), (2, true), (3, true), (5, true), (6, true), (7, true), (8, true), (10, true), (11, true), (12, true), (13, true), (4, false), (9, false), (14, false), (15, false), (16, false), (17, true)] (by kernel_rfl) (by kernel_rfl) (Ext y) (Ext.rfl' y).dr ?_
    iterate 12 (refine sQ rfl rfl ?_ ?_ ?_; rotate_left; (· (intro w' hw'; have zk0 := hw'.cellOf k0; have zk1 := hw'.cellOf k1; have zk2 := hw'.cellOf k2; have zm0 := hw'.cellOf m0; have zm1 := hw'.cellOf m1; have zm2 := hw'.cellOf m2; go_simp; try with_reducible rfl)); try simp only [Act.put, List.setIfInBounds_toArray, List.set_cons_succ, List.set_cons_zero])
    refine sL rfl rfl ?_
    go_wp2_with fail
    refine (cmpI_any _ _ _).mono ?_
    rintro e w1 ⟨rfl, rfl⟩
    go_wp2_with fail
    refine SQ.mk ((Ext.rfl' y).dr) ?_
    refine sL rfl rfl ?_
    go_wp2_with fail
    refine (cmpI_any _ _ _).mono ?_
    rintro e w1 ⟨rfl, rfl⟩
    go_wp2_with fail
    refine SQ.mk ((Ext.rfl' y).dr) ?_
    refine sL rfl rfl ?_
    go_wp2_with fail
    refine (cmpS_any _ _ _).mono ?_
    rintro e w1 ⟨rfl, rfl⟩
    go_wp2_with fail
    refine SQ.mk ((Ext.rfl' y).dr) ?_
    refine sL rfl rfl ?_
    go_wp2_with fail
    go_wp2_with fail
    refine SQ.mk ((Ext.rfl' y).dr.al _) ?_
    refine sL rfl rfl ?_
    go_wp2_with fail
    refine (or_any _ 3 _ [cmpI t.k u.k, cmpI t.i u.i, cmpS t.s u.s] _ rfl ((Rd.newAt y _ #[.int .i64 (cmpI t.k u.k), .int .i64 (cmpI t.i u.i), .int .i64 (cmpS t.s u.s)] _ rfl).ext (Ext.rfl' _).dr) (by omega)).mono ?_
    rintro e w1 ⟨rfl, rfl⟩
    have hF := ((Ext.rfl' y).al (.cells #[.int .i64 (cmpI t.k u.k), .int .i64 (cmpI t.i u.i), .int .i64 (cmpS t.s u.s)] 3)).dr
    go_wp2_with fail
    refine SQ.mk hF ?_
    iterate 1 (refine sQ rfl rfl ?_ ?_ ?_; rotate_left; (· (intro w' hw'; have zk0 := hw'.cellOf k0; have zk1 := hw'.cellOf k1; have zk2 := hw'.cellOf k2; have zm0 := hw'.cellOf m0; have zm1 := hw'.cellOf m1; have zm2 := hw'.cellOf m2; go_simp; try with_reducible rfl)); try simp only [Act.put, List.setIfInBounds_toArray, List.set_cons_succ, List.set_cons_zero])
    refine sE ?_
    go_wp2
    go_ret
    rw [HF3.out]
    exact Ret.mk rfl (hEy.tr hF)
  · have HF1 : Hid (cmpT t u = cmpI (rankK t.k) (rankK u.k)) := by rw [HF.out]; unfold orI; rw [if_pos h1]; exact Lib.hid rfl
    have hb : (cmpI (rankK t.k) (rankK u.k) != 0) = true := by simpa using h1
    clear h1
    go_enter Try.func14, Try.ntmps14
    go_wp2_with fail
    go_quiet ((first | (go_at_call 53; exact quiet_left (rank_any _ _)) | (go_at_call 52; exact quiet_left (cmpI_any _ _ _))))
    go_wp2_with fail
    go_wp2
    go_ret
    rw [HF1.out]
    exact Ret.mk rfl ((((Ext.rfl' w).al _).al _).drN _)

def ListRel (W : World) (ts us : List T) (v9 : Value) (wr : World) : Prop :=
  ∃ k : Nat, v9 = .int .i64 (k : Int) ∧ k ≤ ts.length ∧ Hid (cmpL ts us = cmpL (ts.drop k) (us.drop k)) ∧ Ext W wr

set_option maxRecDepth 100000 in
set_option maxHeartbeats 1600000 in
theorem list_step (n : Nat) (hM : n ≤ 1000000)
    (HC : Hid (∀ (t u : T) (v x : Value) (w : World), wt t ≤ n → VT w t v → VT w u x → Calls Try.prog 14 #[v, x] w (Ret w (Is (.int .i64 (cmpT t u))))))
    (ts us : List T) (v x : Value) (w : World) (hn : wtL ts ≤ n) (hlen : ts.length = us.length) (hv : SlT w ts v) (hx : SlT w us x) : Calls Try.prog 55 #[v, x] w (Ret w (Is (.int .i64 (cmpL ts us)))) := by
  have hv' := hv
  have hx' := hx
  obtain ⟨A, c, xs, rfl, -⟩ := hv
  obtain ⟨B, d, ys, rfl, -⟩ := hx
  have hll : ts.length ≤ 1000000 := by have := len_wtL ts; omega
  have hul : ts.length ≤ us.length := by omega
  have HL := Lib.hid hlen
  have HN : Hid (wtL ts ≤ n) := hn
  clear hlen hn
  go_enter Try.func55, Try.ntmps55
  go_wp2
  go_loopw [5, 6, 9] (fun _ _ v9 wr => ListRel w ts us v9 wr) (fun _ _ v9 _ => ts.length - (intOf v9).toNat)
  case atStart => exact ⟨0, rfl, by omega, Lib.hid rfl, Ext.rfl' w⟩
  case round =>
    obtain ⟨k, rfl, hk, hi, he⟩ := hrel
    by_cases hlt : k < ts.length
    · obtain ⟨t, ht⟩ : ∃ t, ts[k]? = some t := ⟨ts[k], List.getElem?_eq_getElem hlt⟩
      obtain ⟨u, hu⟩ : ∃ u, us[k]? = some u := ⟨us[k]'(by omega), List.getElem?_eq_getElem (by omega)⟩
      have hlu : k < us.length := by omega
      obtain ⟨b, o, sl, rfl, c0, c1, c2, c3, -, hvt⟩ := (hv'.ext he).at_ ht
      obtain ⟨b2, o2, sx, rfl, m0, m1, m2, m3, -, hvu⟩ := (hx'.ext he).at_ hu
      rw [cmpL_drop ht hu] at hi
      have HW : Hid (wt t ≤ n) := by have := wt_mem (List.mem_of_getElem? ht); have := HN.out; exact Lib.hid (by omega)
      clear ht hu
      go_wp2_with fail
      refine wp_region_sched [(0, true), (1, true), (2, true), (3, true), (4, true), (5, true), (6, true), (7, true), (8, false), (9, true)] (by kernel_rfl) (by kernel_rfl) (Ext wr) (Ext.rfl' wr).dr ?_
      iterate 8 (refine sQ rfl rfl ?_ ?_ ?_; rotate_left; (· (intro w' hw'; have zc0 := hw'.cellOf c0; have zc1 := hw'.cellOf c1; have zc2 := hw'.cellOf c2; have zc3 := hw'.cellOf c3; have zm0 := hw'.cellOf m0; have zm1 := hw'.cellOf m1; have zm2 := hw'.cellOf m2; have zm3 := hw'.cellOf m3; go_simp; try with_reducible rfl)); try simp only [Act.put, List.setIfInBounds_toArray, List.set_cons_succ, List.set_cons_zero])
      refine sL rfl rfl ?_
      go_wp2_with fail
      refine ((unhide HC) t u _ _ _ HW.out (hvt.ext (Ext.rfl' wr).dr) (hvu.ext (Ext.rfl' wr).dr)).mono ?_
      rintro e w2 ⟨v, rfl, hv2, he2⟩
      obtain rfl : v = _ := hv2
      have hE2 : Ext wr w2 := (Ext.rfl' wr).dr.tr he2
      go_wp2_with fail
      refine SQ.mk hE2 ?_
      iterate 1 (refine sQ rfl rfl ?_ ?_ ?_; rotate_left; (· (intro w' hw'; have zc0 := hw'.cellOf c0; have zc1 := hw'.cellOf c1; have zc2 := hw'.cellOf c2; have zc3 := hw'.cellOf c3; have zm0 := hw'.cellOf m0; have zm1 := hw'.cellOf m1; have zm2 := hw'.cellOf m2; have zm3 := hw'.cellOf m3; go_simp; try with_reducible rfl)); try simp only [Act.put, List.setIfInBounds_toArray, List.set_cons_succ, List.set_cons_zero])
      refine sE ?_
      by_cases h0 : cmpT t u = 0
      · have hb : (cmpT t u != 0) = false := by simpa using h0
        have HI : Hid (cmpL ts us = cmpL (ts.drop (k + 1)) (us.drop (k + 1))) := by rw [hi.out]; unfold orI; rw [if_neg (by simpa using h0)]; exact Lib.hid rfl
        clear h0
        go_wp2
        go_roundw
        case rel => exact ⟨k + 1, by go_num, by omega, HI, he.tr hE2⟩
        case measure => simp [intOf]; omega
      · have hb : (cmpT t u != 0) = true := by simpa using h0
        have HI : Hid (cmpL ts us = cmpT t u) := by rw [hi.out]; unfold orI; rw [if_pos h0]; exact Lib.hid rfl
        clear h0
        go_wp2
        go_ret
        rw [HI.out]
        exact Ret.mk rfl (he.tr hE2)
    · rw [List.drop_eq_nil_of_le (by omega)] at hi
      go_wp2
      go_ret
      rw [hi.out]
      exact Ret.mk (by simp only [cmpL]; rfl) he

theorem compare_any : ∀ (n : Nat), n ≤ 1000000 → ∀ (t u : T) (v x : Value) (w : World), wt t ≤ n → VT w t v → VT w u x → Calls Try.prog 14 #[v, x] w (Ret w (Is (.int .i64 (cmpT t u))))
  | 0, _, t, _, _, _, _, hn, _, _ => by rw [wt_eq] at hn; omega
  | n + 1, hM, t, u, v, x, w, hn, hv, hx =>
    compare_step n (by omega) (Lib.hid fun ts us v u w h1 h2 h3 h4 => list_step n (by omega) (Lib.hid (compare_any n (by omega))) ts us v u w h1 h2 h3 h4) t u v x w (by rw [wt_eq] at hn; omega) hv hx
theorem list_any (n : Nat) (hM : n ≤ 1000000) (ts us : List T) (v x : Value) (w : World) (hn : wtL ts ≤ n) (hlen : ts.length = us.length) (hv : SlT w ts v) (hx : SlT w us x) : Calls Try.prog 55 #[v, x] w (Ret w (Is (.int .i64 (cmpL ts us)))) :=
  list_step n hM (Lib.hid (compare_any n hM)) ts us v x w hn hlen hv hx
end Go.Proofs.Ytcjbageaiafbmaa
