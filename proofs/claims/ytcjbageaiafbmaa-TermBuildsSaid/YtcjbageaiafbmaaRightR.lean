/-
  The walks of the reference's form, Right and rightArgs.
-/
import Derived.Test.YtcjbageaiafbmaaRight
namespace Go.Proofs.Ytcjbageaiafbmaa
open Go.RowKit

theorem box_cells (w : World) (cs : Array Value) (t : TypeId) (j : Nat) (u : Value) (h : cs[j]? = some u) : (w.alloc (.cells cs t)).cell? ⟨w.heap.size, j, none⟩ = some u := by
  rcases Rd.new w cs t with h0 | ⟨ad, ha, hc⟩
  · rw [← Array.getElem?_toList, h0] at h; simp at h
  · have := hc j u (by rw [Array.getElem?_toList]; exact h)
    injection ha with ha
    subst ha
    by_cases hj : j = 0
    · subst hj; simpa [Addr.add] using this
    · simpa [Addr.add, hj] using this
def FormRel (w : World) (l : List T) (sl : Value) (v4 : Value) (wr : World) : Prop :=
  ∃ k : Nat, v4 = .int .i64 (k : Int) ∧ k ≤ l.length ∧ Ext w wr ∧ wr.cell? ⟨w.heap.size, 3, none⟩ = some sl ∧ Hid (formL (l.take k) = true)
theorem form_snoc {l : List T} {k : Nat} {t : T} (ht : l[k]? = some t) (h : formL (l.take k) = true) : formL (l.take (k + 1)) = formT t := by
  rw [take_snocT ht, formL_app, h]
  simp [formL]
theorem form_take {l : List T} (k : Nat) (h : formL l = true) : formL (l.take k) = true := by
  rw [← List.take_append_drop k l, formL_app, Bool.and_eq_true] at h
  exact h.1

set_option maxHeartbeats 1000000 in
theorem form_step (n : Nat) (hM : n ≤ 1000000) (HI : Hid (∀ (t : T) (v : Value) (w : World), wt t ≤ n → VT w t v → Calls Try.prog 49 #[v] w (Ret w (Is (.bool (formT t))))))
    (t : T) (v : Value) (w : World) (hn : wtL t.ar ≤ n) (hv : VT w t v) : Calls Try.prog 49 #[v] w (Ret w (Is (.bool (formT t)))) := by
  obtain ⟨sl, rfl, hs, -, -, hsz⟩ := hv.open_
  have hs' := hide hs
  have hz := Lib.hid hsz
  obtain ⟨A, c, xs, rfl, hr⟩ := hs
  have HN := Lib.hid hn
  clear hv hn hr hsz
  by_cases k0 : t.k = 0
  · have hk : (t.k == 0) = true := by simpa using k0
    have HF := Lib.hid (formT_0 k0)
    clear k0
    go_enter Try.func49, Try.ntmps49
    go_wp2
    all_goals go_ret
    all_goals refine Ret.mk (HF.out ▸ ?_) ((Ext.rfl' w).al _)
    all_goals refine congrArg Value.bool (Bool.eq_iff_iff.2 ?_)
    all_goals simp [*]
    all_goals omega
  by_cases k1 : t.k = 1
  · have hk0 : (t.k == 0) = false := by simpa using k0
    have hk : (t.k == 1) = true := by simpa using k1
    have HF := Lib.hid (formT_1 k1)
    clear k0 k1
    go_enter Try.func49, Try.ntmps49
    go_wp2
    all_goals go_ret
    all_goals refine Ret.mk (HF.out ▸ ?_) ((Ext.rfl' w).al _)
    all_goals refine congrArg Value.bool (Bool.eq_iff_iff.2 ?_)
    all_goals simp [*]
    all_goals omega
  have hk0 : (t.k == 0) = false := by simpa using k0
  have hk1 : (t.k == 1) = false := by simpa using k1
  by_cases k2 : t.k = 2
  · have hk : (t.k == 2) = true := by simpa using k2
    have HF := Lib.hid (formT_2 k2)
    clear k0 k1 k2
    have hll : t.ar.length ≤ 1000000 := by have := len_wtL t.ar; have := HN.out; omega
    have hop := hide (refOperator_any t.s)
    have hnm := hide (refName_any t.s hz)
    by_cases hj : ¬ t.i = 0
    · have hni : (t.i != 0) = true := by simpa using hj
      have HX : Hid (formT t = false) := Lib.hid (by rw [HF.out]; simp [headF, hj])
      clear hj
      go_enter Try.func49, Try.ntmps49
      go_wp2_with fail
      refine ((unhide hop) _).mono ?_
      rintro e w1 ⟨rfl, rfl⟩
      go_wp2
      all_goals go_ret
      all_goals exact Ret.mk (HX.out ▸ rfl) ((Ext.rfl' w).al _)
    have hi : t.i = 0 := by simpa using hj
    clear hj
    have hni : (t.i != 0) = false := by simpa using hi
    have HD : Hid (headF t = ((isOp t.s && decide (t.ar.length = 2)) || (isName t.s && decide (t.ar.length ≤ 6)))) := Lib.hid (by unfold headF; simp [hi])
    clear hi
    cases ho : isOp t.s <;> rw [ho] at hop
    · cases hn : isName t.s <;> rw [hn] at hnm
      · have HX : Hid (formT t = false) := Lib.hid (by rw [HF.out, HD.out, ho, hn]; rfl)
        clear ho hn
        go_enter Try.func49, Try.ntmps49
        go_wp2_with fail
        refine ((unhide hop) _).mono ?_
        rintro e w1 ⟨rfl, rfl⟩
        go_wp2_with fail
        refine ((unhide hnm) _).mono ?_
        rintro e w1 ⟨rfl, rfl⟩
        go_wp2
        go_ret
        exact Ret.mk (HX.out ▸ rfl) ((Ext.rfl' w).al _)
      · by_cases h6 : 6 < t.ar.length
        · have HX : Hid (formT t = false) := Lib.hid (by rw [HF.out, HD.out, ho, hn, decide_eq_false (show ¬ t.ar.length ≤ 6 by omega)]; rfl)
          clear ho hn
          go_enter Try.func49, Try.ntmps49
          go_wp2_with fail
          refine ((unhide hop) _).mono ?_
          rintro e w1 ⟨rfl, rfl⟩
          go_wp2_with fail
          refine ((unhide hnm) _).mono ?_
          rintro e w1 ⟨rfl, rfl⟩
          go_wp2
          go_ret
          exact Ret.mk (HX.out ▸ rfl) ((Ext.rfl' w).al _)
        · have HH : Hid (headF t = true) := Lib.hid (by rw [HD.out, ho, hn, decide_eq_true (show t.ar.length ≤ 6 by omega)]; rfl)
          clear ho hn
          go_enter Try.func49, Try.ntmps49
          go_wp2_with fail
          refine ((unhide hop) _).mono ?_
          rintro e w1 ⟨rfl, rfl⟩
          go_wp2_with fail
          refine ((unhide hnm) _).mono ?_
          rintro e w1 ⟨rfl, rfl⟩
          go_wp2
          go_loopw [4] (fun v4 wr => FormRel w t.ar (.slice A t.ar.length c) v4 wr) (fun v4 _ => t.ar.length - (intOf v4).toNat)
          case atStart => exact ⟨0, rfl, by omega, (Ext.rfl' w).al _, box_cells w _ _ 3 _ rfl, Lib.hid rfl⟩
          case round =>
            obtain ⟨k, rfl, hk, hE, z3, hH⟩ := hrel
            by_cases hlt : k < t.ar.length
            · obtain ⟨u, hu⟩ : ∃ u, t.ar[k]? = some u := ⟨t.ar[k], List.getElem?_eq_getElem hlt⟩
              obtain ⟨B2, o, sl, rfl, c0, c1, c2, c3, hs, hvt⟩ := (SlT.ext (unhide hs') hE : SlT wr t.ar _).at_ hu
              have hvt := hide hvt
              obtain ⟨A2, d2, xs2, rfl, -⟩ := hs
              have HT := Lib.hid (form_snoc hu hH.out)
              have HU : Hid (wt u ≤ n) := Lib.hid (by have := wt_mem (List.mem_of_getElem? hu); have := HN.out; omega)
              clear hu
              have hlen := hide hll
              go_wp2_with fail
              refine (HI.out u _ _ HU.out (unhide hvt)).mono ?_
              rintro e w1 ⟨v, rfl, hv, he1⟩
              obtain rfl : v = _ := hv
              have hE1 := hE.tr he1
              have z3' := he1.cellOf z3
              cases hf : formT u
              · have HX : Hid (formT t = false) := Lib.hid (by
                  rw [HF.out, HH.out, Bool.true_and]
                  cases h : formL t.ar
                  · rfl
                  · have := form_take (k + 1) h; rw [HT.out, hf] at this; simp at this)
                clear hf
                go_wp2
                go_ret
                exact Ret.mk (HX.out ▸ rfl) hE1
              · have HI2 : Hid (formL (t.ar.take (k + 1)) = true) := Lib.hid (HT.out.trans hf)
                clear hf
                go_wp2
                go_roundw
                case rel => exact ⟨k + 1, by go_num, by omega, hE1, z3', HI2⟩
                case measure => simp [intOf]; omega
            · have HX : Hid (formT t = true) := Lib.hid (by
                rw [HF.out, HH.out, Bool.true_and]
                have := hH.out
                rwa [List.take_of_length_le (by omega)] at this)
              go_wp2
              go_ret
              exact Ret.mk (HX.out ▸ rfl) hE
    · by_cases h2 : t.ar.length = 2
      · have HH : Hid (headF t = true) := Lib.hid (by rw [HD.out, ho]; simp [h2])
        have h2b : ((t.ar.length : Int) == 2) = true := by simp [h2]
        clear ho h2
        go_enter Try.func49, Try.ntmps49
        go_wp2_with fail
        refine ((unhide hop) _).mono ?_
        rintro e w1 ⟨rfl, rfl⟩
        go_wp2
        go_loopw [4] (fun v4 wr => FormRel w t.ar (.slice A t.ar.length c) v4 wr) (fun v4 _ => t.ar.length - (intOf v4).toNat)
        case atStart => exact ⟨0, rfl, by omega, (Ext.rfl' w).al _, box_cells w _ _ 3 _ rfl, Lib.hid rfl⟩
        case round =>
          obtain ⟨k, rfl, hk, hE, z3, hH⟩ := hrel
          by_cases hlt : k < t.ar.length
          · obtain ⟨u, hu⟩ : ∃ u, t.ar[k]? = some u := ⟨t.ar[k], List.getElem?_eq_getElem hlt⟩
            obtain ⟨B2, o, sl, rfl, c0, c1, c2, c3, hs, hvt⟩ := (SlT.ext (unhide hs') hE : SlT wr t.ar _).at_ hu
            have hvt := hide hvt
            obtain ⟨A2, d2, xs2, rfl, -⟩ := hs
            have HT := Lib.hid (form_snoc hu hH.out)
            have HU : Hid (wt u ≤ n) := Lib.hid (by have := wt_mem (List.mem_of_getElem? hu); have := HN.out; omega)
            clear hu
            have hlen := hide hll
            go_wp2_with fail
            refine (HI.out u _ _ HU.out (unhide hvt)).mono ?_
            rintro e w1 ⟨v, rfl, hv, he1⟩
            obtain rfl : v = _ := hv
            have hE1 := hE.tr he1
            have z3' := he1.cellOf z3
            cases hf : formT u
            · have HX : Hid (formT t = false) := Lib.hid (by
                rw [HF.out, HH.out, Bool.true_and]
                cases h : formL t.ar
                · rfl
                · have := form_take (k + 1) h; rw [HT.out, hf] at this; simp at this)
              clear hf
              go_wp2
              go_ret
              exact Ret.mk (HX.out ▸ rfl) hE1
            · have HI2 : Hid (formL (t.ar.take (k + 1)) = true) := Lib.hid (HT.out.trans hf)
              clear hf
              go_wp2
              go_roundw
              case rel => exact ⟨k + 1, by go_num, by omega, hE1, z3', HI2⟩
              case measure => simp [intOf]; omega
          · have HX : Hid (formT t = true) := Lib.hid (by
              rw [HF.out, HH.out, Bool.true_and]
              have := hH.out
              rwa [List.take_of_length_le (by omega)] at this)
            go_wp2
            go_ret
            exact Ret.mk (HX.out ▸ rfl) hE
      · have h2b : ((t.ar.length : Int) == 2) = false := by simp; omega
        cases hn : isName t.s <;> rw [hn] at hnm
        · have HX : Hid (formT t = false) := Lib.hid (by rw [HF.out, HD.out, ho, hn]; simp [h2])
          clear ho hn h2
          go_enter Try.func49, Try.ntmps49
          go_wp2_with fail
          refine ((unhide hop) _).mono ?_
          rintro e w1 ⟨rfl, rfl⟩
          go_wp2_with fail
          refine ((unhide hnm) _).mono ?_
          rintro e w1 ⟨rfl, rfl⟩
          go_wp2
          go_ret
          exact Ret.mk (HX.out ▸ rfl) ((Ext.rfl' w).al _)
        · by_cases h6 : 6 < t.ar.length
          · have HX : Hid (formT t = false) := Lib.hid (by rw [HF.out, HD.out, ho, hn, decide_eq_false (show ¬ t.ar.length ≤ 6 by omega)]; simp [h2])
            clear ho hn h2
            go_enter Try.func49, Try.ntmps49
            go_wp2_with fail
            refine ((unhide hop) _).mono ?_
            rintro e w1 ⟨rfl, rfl⟩
            go_wp2_with fail
            refine ((unhide hnm) _).mono ?_
            rintro e w1 ⟨rfl, rfl⟩
            go_wp2
            go_ret
            exact Ret.mk (HX.out ▸ rfl) ((Ext.rfl' w).al _)
          · have HH : Hid (headF t = true) := Lib.hid (by rw [HD.out, ho, hn, decide_eq_true (show t.ar.length ≤ 6 by omega)]; simp)
            clear ho hn h2
            go_enter Try.func49, Try.ntmps49
            go_wp2_with fail
            refine ((unhide hop) _).mono ?_
            rintro e w1 ⟨rfl, rfl⟩
            go_wp2_with fail
            refine ((unhide hnm) _).mono ?_
            rintro e w1 ⟨rfl, rfl⟩
            go_wp2
            go_loopw [4] (fun v4 wr => FormRel w t.ar (.slice A t.ar.length c) v4 wr) (fun v4 _ => t.ar.length - (intOf v4).toNat)
            case atStart => exact ⟨0, rfl, by omega, (Ext.rfl' w).al _, box_cells w _ _ 3 _ rfl, Lib.hid rfl⟩
            case round =>
              obtain ⟨k, rfl, hk, hE, z3, hH⟩ := hrel
              by_cases hlt : k < t.ar.length
              · obtain ⟨u, hu⟩ : ∃ u, t.ar[k]? = some u := ⟨t.ar[k], List.getElem?_eq_getElem hlt⟩
                obtain ⟨B2, o, sl, rfl, c0, c1, c2, c3, hs, hvt⟩ := (SlT.ext (unhide hs') hE : SlT wr t.ar _).at_ hu
                have hvt := hide hvt
                obtain ⟨A2, d2, xs2, rfl, -⟩ := hs
                have HT := Lib.hid (form_snoc hu hH.out)
                have HU : Hid (wt u ≤ n) := Lib.hid (by have := wt_mem (List.mem_of_getElem? hu); have := HN.out; omega)
                clear hu
                have hlen := hide hll
                go_wp2_with fail
                refine (HI.out u _ _ HU.out (unhide hvt)).mono ?_
                rintro e w1 ⟨v, rfl, hv, he1⟩
                obtain rfl : v = _ := hv
                have hE1 := hE.tr he1
                have z3' := he1.cellOf z3
                cases hf : formT u
                · have HX : Hid (formT t = false) := Lib.hid (by
                    rw [HF.out, HH.out, Bool.true_and]
                    cases h : formL t.ar
                    · rfl
                    · have := form_take (k + 1) h; rw [HT.out, hf] at this; simp at this)
                  clear hf
                  go_wp2
                  go_ret
                  exact Ret.mk (HX.out ▸ rfl) hE1
                · have HI2 : Hid (formL (t.ar.take (k + 1)) = true) := Lib.hid (HT.out.trans hf)
                  clear hf
                  go_wp2
                  go_roundw
                  case rel => exact ⟨k + 1, by go_num, by omega, hE1, z3', HI2⟩
                  case measure => simp [intOf]; omega
              · have HX : Hid (formT t = true) := Lib.hid (by
                  rw [HF.out, HH.out, Bool.true_and]
                  have := hH.out
                  rwa [List.take_of_length_le (by omega)] at this)
                go_wp2
                go_ret
                exact Ret.mk (HX.out ▸ rfl) hE
  have hk2 : (t.k == 2) = false := by simpa using k2
  have HF := Lib.hid (formT_3 k0 k1 k2)
  clear k0 k1 k2
  go_enter Try.func49, Try.ntmps49
  go_wp2
  go_ret
  exact Ret.mk (HF.out ▸ rfl) ((Ext.rfl' w).al _)
theorem form_any : ∀ (n : Nat), n ≤ 1000000 → ∀ (t : T) (v : Value) (w : World), wt t ≤ n → VT w t v → Calls Try.prog 49 #[v] w (Ret w (Is (.bool (formT t))))
  | 0, _, t, _, _, hn, _ => by rw [wt_eq] at hn; omega
  | n + 1, hM, t, v, w, hn, hv => form_step n (by omega) (Lib.hid (form_any n (by omega))) t v w (by rw [wt_eq] at hn; omega) hv

theorem refRight_any (n : Nat) (hM : n ≤ 1000000) (t : T) (v : Value) (w : World) (hn : wt t ≤ n) (hv : VT w t v) : Calls Try.prog 12 #[v] w (Ret w (Is (.bool (rightT t)))) := by
  have h1 := hide (fun (w' : World) (e : Ext w w') => form_any n hM t v w' hn (hv.ext e))
  have h2 := hide (fun (w' : World) (e : Ext w w') => refSize_any n t v w' hn hM (hv.ext e))
  have h3 := hide (fun (w' : World) (e : Ext w w') => refDepth_any n t v w' hn hM (hv.ext e))
  obtain ⟨sl, rfl, hs, -⟩ := hv.open_
  obtain ⟨A, c, xs, rfl, -⟩ := hs
  have z0 := box_cells w #[.int .i64 t.k, .int .i64 t.i, .string t.s, .slice A t.ar.length c] 24 0 _ rfl
  have z1 := box_cells w #[.int .i64 t.k, .int .i64 t.i, .string t.s, .slice A t.ar.length c] 24 1 _ rfl
  have z2 := box_cells w #[.int .i64 t.k, .int .i64 t.i, .string t.s, .slice A t.ar.length c] 24 2 _ rfl
  have z3 := box_cells w #[.int .i64 t.k, .int .i64 t.i, .string t.s, .slice A t.ar.length c] 24 3 _ rfl
  have HR : Hid (rightT t = (formT t && decide (sizeT t ≤ 200) && decide (depthT t ≤ 20))) := Lib.hid rfl
  clear hv hn
  cases hf : formT t <;> rw [hf] at h1 HR
  · have HX : Hid (rightT t = false) := Lib.hid (by rw [HR.out]; rfl)
    clear hf
    go_enter Try.func12, Try.ntmps12
    go_wp2_with fail
    refine ((unhide h1) _ ((Ext.rfl' w).al _)).mono ?_
    rintro e w1 ⟨v, rfl, hv, he1⟩
    obtain rfl : v = _ := hv
    go_wp2
    go_ret
    exact Ret.mk (HX.out ▸ rfl) (((Ext.rfl' w).al _).tr he1)
  · clear hf
    go_enter Try.func12, Try.ntmps12
    go_wp2_with fail
    refine ((unhide h1) _ ((Ext.rfl' w).al _)).mono ?_
    rintro e w1 ⟨v, rfl, hv, he1⟩
    obtain rfl : v = _ := hv
    have y0 := he1.cellOf z0
    have y1 := he1.cellOf z1
    have y2 := he1.cellOf z2
    have y3 := he1.cellOf z3
    have hE1 := ((Ext.rfl' w).al _).tr he1
    clear he1 z0 z1 z2 z3
    by_cases hs : (sizeT t : Int) ≤ 200
    · go_wp2_with fail
      refine ((unhide h2) _ hE1).mono ?_
      rintro e w2 ⟨v, rfl, hv, he2⟩
      obtain rfl : v = _ := hv
      have u0 := he2.cellOf y0
      have u1 := he2.cellOf y1
      have u2 := he2.cellOf y2
      have u3 := he2.cellOf y3
      have hE2 := hE1.tr he2
      clear he2 y0 y1 y2 y3 hE1
      go_wp2_with fail
      refine ((unhide h3) _ hE2).mono ?_
      rintro e w3 ⟨v, rfl, hv, he3⟩
      obtain rfl : v = _ := hv
      have HX : Hid (rightT t = decide ((depthT t : Int) ≤ 20)) := Lib.hid (by rw [HR.out, decide_eq_true (show sizeT t ≤ 200 by omega), Bool.true_and, Bool.true_and, Bool.eq_iff_iff]; simp only [decide_eq_true_eq]; omega)
      go_wp2
      go_ret
      exact Ret.mk (HX.out ▸ rfl) (hE2.tr he3)
    · have HX : Hid (rightT t = false) := Lib.hid (by rw [HR.out, decide_eq_false (show ¬ sizeT t ≤ 200 by omega)]; rfl)
      go_wp2_with fail
      refine ((unhide h2) _ hE1).mono ?_
      rintro e w2 ⟨v, rfl, hv, he2⟩
      obtain rfl : v = _ := hv
      go_wp2
      go_ret
      exact Ret.mk (HX.out ▸ rfl) (hE1.tr he2)
end Go.Proofs.Ytcjbageaiafbmaa
