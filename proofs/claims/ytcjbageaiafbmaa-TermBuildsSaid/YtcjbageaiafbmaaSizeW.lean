/-
  The walks of args, Size and Depth of the program and of the reference.
-/
import Derived.Test.YtcjbageaiafbmaaMeas
namespace Go.Proofs.Ytcjbageaiafbmaa
open Go.RowKit

theorem ret_int {k : IntKind} {a b : Int} (h : a = b) : Ending.returned (.int k a) = .returned (.int k b) := by rw [h]
theorem is_int {k : IntKind} {a b : Int} {w : World} (h : a = b) : Is (.int k b) (.int k a) w := by rw [h]; rfl

/-- A slice value over these terms. -/
def IsSl (ts : List T) (v : Value) (w : World) : Prop := SlT w ts v

theorem args_any (t : T) (v : Value) (w : World) (hv : VT w t v) : Calls Try.prog 61 #[v] w (Ret w (IsSl t.used)) := by
  obtain ⟨sl, rfl, hs, -⟩ := hv.open_
  by_cases h : t.k = 2
  · have hb : (t.k == 2) = true := by simpa using h
    have HU : Hid (t.used = t.ar) := by unfold T.used; rw [if_pos h]; exact Lib.hid rfl
    clear h
    obtain ⟨A, c, xs, rfl, hr⟩ := hs
    go_enter Try.func61, Try.ntmps61
    go_wp2
    go_ret
    rw [HU.out]
    exact Ret.mk (R := IsSl t.ar) (SlT.ext ⟨A, c, xs, rfl, hr⟩ ((Ext.rfl' w).al _)) ((Ext.rfl' w).al _)
  · have hb : (t.k == 2) = false := by simpa using h
    have HU : Hid (t.used = []) := by unfold T.used; rw [if_neg h]; exact Lib.hid rfl
    clear h
    go_enter Try.func61, Try.ntmps61
    go_wp2
    go_ret
    rw [HU.out]
    exact Ret.mk (R := IsSl []) ⟨none, 0, [], rfl, by simp, by omega, Rd.nil _ _, CL.nil _⟩ ((Ext.rfl' w).al _)

theorem refArgs_any (t : T) (v : Value) (w : World) (hv : VT w t v) : Calls Try.prog 71 #[v] w (Ret w (IsSl t.used)) := by
  obtain ⟨sl, rfl, hs, -⟩ := hv.open_
  by_cases h : t.k = 2
  · have hb : (t.k == 2) = true := by simpa using h
    have HU : Hid (t.used = t.ar) := by unfold T.used; rw [if_pos h]; exact Lib.hid rfl
    clear h
    obtain ⟨A, c, xs, rfl, hr⟩ := hs
    go_enter Try.func71, Try.ntmps71
    go_wp2
    go_ret
    rw [HU.out]
    exact Ret.mk (R := IsSl t.ar) (SlT.ext ⟨A, c, xs, rfl, hr⟩ ((Ext.rfl' w).al _)) ((Ext.rfl' w).al _)
  · have hb : (t.k == 2) = false := by simpa using h
    have HU : Hid (t.used = []) := by unfold T.used; rw [if_neg h]; exact Lib.hid rfl
    clear h
    go_enter Try.func71, Try.ntmps71
    go_wp2
    go_ret
    rw [HU.out]
    exact Ret.mk (R := IsSl []) ⟨none, 0, [], rfl, by simp, by omega, Rd.nil _ _, CL.nil _⟩ ((Ext.rfl' w).al _)

/-- A count over the terms before place k. -/
def CountRel (W : World) (f : List T → Nat) (l : List T) (v3 v9 : Value) (wr : World) : Prop :=
  ∃ k : Nat, v3 = .int .i64 (f (l.take k) : Nat) ∧ v9 = .int .i64 (k : Int) ∧ k ≤ l.length ∧ Ext W wr

set_option maxRecDepth 100000 in
set_option maxHeartbeats 800000 in
theorem size_any : ∀ (n : Nat) (t : T) (v : Value) (w : World), wt t ≤ n → n ≤ 1000000 → VT w t v → Calls Try.prog 19 #[v] w (Ret w (Is (.int .i64 (sizeT t : Nat))))
  | 0, t, v, w, hn, _, _ => by rw [wt_eq] at hn; omega
  | n + 1, t, v, w, hn, hM, hv => by
    have IH := hide (size_any n)
    have hv' := hv
    obtain ⟨sl, rfl, hs, -⟩ := hv.open_
    have HS := Lib.hid (sizeT_eq t)
    have hwu : wtL t.used ≤ n := by have := wtL_used t; rw [wt_eq] at hn; omega
    have hwm : ∀ u, u ∈ t.used → wt u ≤ n := fun u hu => by have := wt_mem hu; omega
    have HM := Lib.hid hwm
    clear hwm hn hs hv
    go_enter Try.func19, Try.ntmps19
    go_wp2_with fail
    refine (args_any t _ _ (hv'.ext ((Ext.rfl' w).al _))).mono ?_
    rintro e w1 ⟨v, rfl, hsl, he0⟩
    have HZ : Hid (wtL t.used ≤ n) := hwu
    clear hwu hv'
    generalize t.used = l at *
    obtain ⟨A, c, xs, rfl, hr⟩ := hsl
    have hll : l.length ≤ n := by have := len_wtL l; have := HZ.out; omega
    have he : Ext w w1 := ((Ext.rfl' w).al _).tr he0
    clear he0
    go_wp2
    go_loopw [3, 5, 9] (fun v3 _ v9 wr => CountRel w1 (fun l => 1 + sizeL l) l v3 v9 wr) (fun _ _ v9 _ => l.length - (intOf v9).toNat)
    case atStart => exact ⟨0, by simp [sizeL], rfl, by omega, Ext.rfl' _⟩
    case round =>
      obtain ⟨k, rfl, rfl, hk, hE⟩ := hrel
      have hb1 : sizeL (l.take k) ≤ 1000000 := by
        have h1 := wt_take l k
        have h2 := sizeL_wt (l.take k)
        have h3 := HZ.out
        omega
      by_cases hlt : k < l.length
      · obtain ⟨u, hu⟩ : ∃ u, l[k]? = some u := ⟨l[k], List.getElem?_eq_getElem hlt⟩
        obtain ⟨b, o, sl, rfl, c0, c1, c2, c3, hs, hvt⟩ := (SlT.ext ⟨A, c, xs, rfl, hr⟩ hE : SlT wr l _).at_ hu
        obtain ⟨A2, d2, xs2, rfl, -⟩ := hs
        have HT := Lib.hid (take_snocT hu)
        have HU : Hid (wt u ≤ n) := HM.out u (List.mem_of_getElem? hu)
        clear hu
        go_wp2_with fail
        refine ((unhide IH) u _ _ HU.out (by omega) (hvt.ext (((Ext.rfl' wr).al _)))).mono ?_
        rintro e w2 ⟨v, rfl, hv2, he2⟩
        obtain rfl : v = _ := hv2
        have hE2 := hE.tr (((Ext.rfl' wr).al _).tr he2)
        have hb2 : sizeT u ≤ 1000000 := by have := size_wt u; have := HU.out; omega
        go_wp2
        go_roundw
        case rel => exact ⟨k + 1, congrArg (Value.int .i64) (show _ = ((1 + sizeL (l.take (k + 1)) : Nat) : Int) by rw [HT.out, sizeL_app]; simp only [sizeL]; omega), by go_num, by omega, hE2⟩
        case measure => simp [intOf]; omega
      · go_wp2
        go_ret
        rw [HS.out]
        exact Ret.mk (is_int (by rw [List.take_of_length_le (by omega)])) (he.tr hE)
set_option maxRecDepth 100000 in
set_option maxHeartbeats 800000 in
theorem depth_any : ∀ (n : Nat) (t : T) (v : Value) (w : World), wt t ≤ n → n ≤ 1000000 → VT w t v → Calls Try.prog 20 #[v] w (Ret w (Is (.int .i64 (depthT t : Nat))))
  | 0, t, v, w, hn, _, _ => by rw [wt_eq] at hn; omega
  | n + 1, t, v, w, hn, hM, hv => by
    have IH := hide (depth_any n)
    have hv' := hv
    obtain ⟨sl, rfl, hs, -⟩ := hv.open_
    have HS := Lib.hid (depthT_eq t)
    have hwu : wtL t.used ≤ n := by have := wtL_used t; rw [wt_eq] at hn; omega
    have hwm : ∀ u, u ∈ t.used → wt u ≤ n := fun u hu => by have := wt_mem hu; omega
    have HM := Lib.hid hwm
    clear hwm hn hs hv
    go_enter Try.func20, Try.ntmps20
    go_wp2_with fail
    refine (args_any t _ _ (hv'.ext ((Ext.rfl' w).al _))).mono ?_
    rintro e w1 ⟨v, rfl, hsl, he0⟩
    have HZ : Hid (wtL t.used ≤ n) := hwu
    clear hwu hv'
    generalize t.used = l at *
    obtain ⟨A, c, xs, rfl, hr⟩ := hsl
    have hll : l.length ≤ n := by have := len_wtL l; have := HZ.out; omega
    have he : Ext w w1 := ((Ext.rfl' w).al _).tr he0
    clear he0
    go_wp2
    go_loopw [3, 5, 9] (fun v3 _ v9 wr => CountRel w1 depthL l v3 v9 wr) (fun _ _ v9 _ => l.length - (intOf v9).toNat)
    case atStart => exact ⟨0, by simp [depthL], rfl, by omega, Ext.rfl' _⟩
    case round =>
      obtain ⟨k, rfl, rfl, hk, hE⟩ := hrel
      have hb1 : depthL (l.take k) ≤ 1000000 := by
        have h1 := wt_take l k
        have h2 := depthL_wt (l.take k)
        have h3 := HZ.out
        omega
      have hbl : depthL l ≤ 1000000 := by have h2 := depthL_wt l; have h3 := HZ.out; omega
      by_cases hlt : k < l.length
      · obtain ⟨u, hu⟩ : ∃ u, l[k]? = some u := ⟨l[k], List.getElem?_eq_getElem hlt⟩
        obtain ⟨b, o, sl, rfl, c0, c1, c2, c3, hs, hvt⟩ := (SlT.ext ⟨A, c, xs, rfl, hr⟩ hE : SlT wr l _).at_ hu
        obtain ⟨A2, d2, xs2, rfl, -⟩ := hs
        have HT := Lib.hid (take_snocT hu)
        have HU : Hid (wt u ≤ n) := HM.out u (List.mem_of_getElem? hu)
        clear hu
        go_wp2_with fail
        refine ((unhide IH) u _ _ HU.out (by omega) (hvt.ext (((Ext.rfl' wr).al _)))).mono ?_
        rintro e w2 ⟨v, rfl, hv2, he2⟩
        obtain rfl : v = _ := hv2
        have hE2 := hE.tr (((Ext.rfl' wr).al _).tr he2)
        have hb2 : depthT u ≤ 1000000 := by have := depth_wt u; have := HU.out; omega
        go_wp2
        go_roundw
        case rel => exact ⟨k + 1, congrArg (Value.int .i64) (show _ = ((depthL (l.take (k + 1)) : Nat) : Int) by rw [HT.out, depthL_app]; simp only [depthL]; omega), by go_num, by omega, hE2⟩
        case measure => simp [intOf]; omega
      · go_wp2
        go_ret
        rw [HS.out]
        exact Ret.mk (is_int (by rw [List.take_of_length_le (by omega)]; omega)) (he.tr hE)
set_option maxRecDepth 100000 in
set_option maxHeartbeats 800000 in
theorem refSize_any : ∀ (n : Nat) (t : T) (v : Value) (w : World), wt t ≤ n → n ≤ 1000000 → VT w t v → Calls Try.prog 41 #[v] w (Ret w (Is (.int .i64 (sizeT t : Nat))))
  | 0, t, v, w, hn, _, _ => by rw [wt_eq] at hn; omega
  | n + 1, t, v, w, hn, hM, hv => by
    have IH := hide (refSize_any n)
    have hv' := hv
    obtain ⟨sl, rfl, hs, -⟩ := hv.open_
    have HS := Lib.hid (sizeT_eq t)
    have hwu : wtL t.used ≤ n := by have := wtL_used t; rw [wt_eq] at hn; omega
    have hwm : ∀ u, u ∈ t.used → wt u ≤ n := fun u hu => by have := wt_mem hu; omega
    have HM := Lib.hid hwm
    clear hwm hn hs hv
    go_enter Try.func41, Try.ntmps41
    go_wp2_with fail
    refine (refArgs_any t _ _ (hv'.ext ((Ext.rfl' w).al _))).mono ?_
    rintro e w1 ⟨v, rfl, hsl, he0⟩
    have HZ : Hid (wtL t.used ≤ n) := hwu
    clear hwu hv'
    generalize t.used = l at *
    obtain ⟨A, c, xs, rfl, hr⟩ := hsl
    have hll : l.length ≤ n := by have := len_wtL l; have := HZ.out; omega
    have he : Ext w w1 := ((Ext.rfl' w).al _).tr he0
    clear he0
    go_wp2
    go_loopw [3, 5] (fun v3 v9 wr => CountRel w1 (fun l => 1 + sizeL l) l v3 v9 wr) (fun _ v9 _ => l.length - (intOf v9).toNat)
    case atStart => exact ⟨0, by simp [sizeL], rfl, by omega, Ext.rfl' _⟩
    case round =>
      obtain ⟨k, rfl, rfl, hk, hE⟩ := hrel
      have hb1 : sizeL (l.take k) ≤ 1000000 := by
        have h1 := wt_take l k
        have h2 := sizeL_wt (l.take k)
        have h3 := HZ.out
        omega
      by_cases hlt : k < l.length
      · obtain ⟨u, hu⟩ : ∃ u, l[k]? = some u := ⟨l[k], List.getElem?_eq_getElem hlt⟩
        obtain ⟨b, o, sl, rfl, c0, c1, c2, c3, hs, hvt⟩ := (SlT.ext ⟨A, c, xs, rfl, hr⟩ hE : SlT wr l _).at_ hu
        obtain ⟨A2, d2, xs2, rfl, -⟩ := hs
        have HT := Lib.hid (take_snocT hu)
        have HU : Hid (wt u ≤ n) := HM.out u (List.mem_of_getElem? hu)
        clear hu
        go_wp2_with fail
        refine ((unhide IH) u _ _ HU.out (by omega) hvt).mono ?_
        rintro e w2 ⟨v, rfl, hv2, he2⟩
        obtain rfl : v = _ := hv2
        have hE2 := hE.tr he2
        have hb2 : sizeT u ≤ 1000000 := by have := size_wt u; have := HU.out; omega
        go_wp2
        go_roundw
        case rel => exact ⟨k + 1, congrArg (Value.int .i64) (show _ = ((1 + sizeL (l.take (k + 1)) : Nat) : Int) by rw [HT.out, sizeL_app]; simp only [sizeL]; omega), by go_num, by omega, hE2⟩
        case measure => simp [intOf]; omega
      · go_wp2
        go_ret
        rw [HS.out]
        exact Ret.mk (is_int (by rw [List.take_of_length_le (by omega)])) (he.tr hE)
set_option maxRecDepth 100000 in
set_option maxHeartbeats 800000 in
theorem refDepth_any : ∀ (n : Nat) (t : T) (v : Value) (w : World), wt t ≤ n → n ≤ 1000000 → VT w t v → Calls Try.prog 42 #[v] w (Ret w (Is (.int .i64 (depthT t : Nat))))
  | 0, t, v, w, hn, _, _ => by rw [wt_eq] at hn; omega
  | n + 1, t, v, w, hn, hM, hv => by
    have IH := hide (refDepth_any n)
    have hv' := hv
    obtain ⟨sl, rfl, hs, -⟩ := hv.open_
    have HS := Lib.hid (depthT_eq t)
    have hwu : wtL t.used ≤ n := by have := wtL_used t; rw [wt_eq] at hn; omega
    have hwm : ∀ u, u ∈ t.used → wt u ≤ n := fun u hu => by have := wt_mem hu; omega
    have HM := Lib.hid hwm
    clear hwm hn hs hv
    go_enter Try.func42, Try.ntmps42
    go_wp2_with fail
    refine (refArgs_any t _ _ (hv'.ext ((Ext.rfl' w).al _))).mono ?_
    rintro e w1 ⟨v, rfl, hsl, he0⟩
    have HZ : Hid (wtL t.used ≤ n) := hwu
    clear hwu hv'
    generalize t.used = l at *
    obtain ⟨A, c, xs, rfl, hr⟩ := hsl
    have hll : l.length ≤ n := by have := len_wtL l; have := HZ.out; omega
    have he : Ext w w1 := ((Ext.rfl' w).al _).tr he0
    clear he0
    go_wp2
    go_loopw [3, 5] (fun v3 v9 wr => CountRel w1 depthL l v3 v9 wr) (fun _ v9 _ => l.length - (intOf v9).toNat)
    case atStart => exact ⟨0, by simp [depthL], rfl, by omega, Ext.rfl' _⟩
    case round =>
      obtain ⟨k, rfl, rfl, hk, hE⟩ := hrel
      have hb1 : depthL (l.take k) ≤ 1000000 := by
        have h1 := wt_take l k
        have h2 := depthL_wt (l.take k)
        have h3 := HZ.out
        omega
      have hbl : depthL l ≤ 1000000 := by have h2 := depthL_wt l; have h3 := HZ.out; omega
      by_cases hlt : k < l.length
      · obtain ⟨u, hu⟩ : ∃ u, l[k]? = some u := ⟨l[k], List.getElem?_eq_getElem hlt⟩
        obtain ⟨b, o, sl, rfl, c0, c1, c2, c3, hs, hvt⟩ := (SlT.ext ⟨A, c, xs, rfl, hr⟩ hE : SlT wr l _).at_ hu
        obtain ⟨A2, d2, xs2, rfl, -⟩ := hs
        have HT := Lib.hid (take_snocT hu)
        have HU : Hid (wt u ≤ n) := HM.out u (List.mem_of_getElem? hu)
        clear hu
        go_wp2_with fail
        refine ((unhide IH) u _ _ HU.out (by omega) hvt).mono ?_
        rintro e w2 ⟨v, rfl, hv2, he2⟩
        obtain rfl : v = _ := hv2
        have hE2 := hE.tr he2
        have hb2 : depthT u ≤ 1000000 := by have := depth_wt u; have := HU.out; omega
        go_wp2
        go_roundw
        case rel => exact ⟨k + 1, congrArg (Value.int .i64) (show _ = ((depthL (l.take (k + 1)) : Nat) : Int) by rw [HT.out, depthL_app]; simp only [depthL]; omega), by go_num, by omega, hE2⟩
        case measure => simp [intOf]; omega
      · go_wp2
        go_ret
        rw [HS.out]
        exact Ret.mk (is_int (by rw [List.take_of_length_le (by omega)]; omega)) (he.tr hE)
end Go.Proofs.Ytcjbageaiafbmaa
